/- The draw of a book: it comes to an end, and what it draws is small. -/
import Derived.Test.YtplkgcoeeohbnaaPFnRatex7
import Derived.Test.YtplkgcoeeohbnaaPDFnRate
namespace Go.Proofs.Ytplkgcoeeohbnaa.DFnRate
open Go.RowKit Go.Proofs.Ytplkgcoeeohbnaa.PFnRate Go.Proofs.YtplkgcoeeohbnaaW.PrintWords Go.Proofs.YtplkgcoeeohbnaaW.PrintLast
abbrev ST := S98
def TinyS (x : ST) : Prop := x.f0.size ≤ 100
theorem all_stock {xs : List ST} (h : ∀ x ∈ xs, TinyS x) : xs.all okST = true := List.all_eq_true.2 fun x hx => by
  have h1 : x.f0.size ≤ 100 := h x hx
  simp only [okST, decide_eq_true_eq]
  omega
theorem rd_stock {xs : List ST} (h : ∀ x ∈ xs, TinyS x) {i : Int} (h0 : 0 ≤ i) (h1 : i < xs.length) : TinyS (rd_T98 xs i) := by
  have : rd_T98 xs i = xs[i.toNat]'(by omega) := by simp [rd_T98, List.getD_eq_getElem?_getD, show i.toNat < xs.length by omega]
  rw [this]
  exact h _ (List.getElem_mem _)
theorem stock_snoc {xs : List ST} {x : ST} (h : ∀ x ∈ xs, TinyS x) (hx : TinyS x) : ∀ y ∈ xs ++ [x], TinyS y := by
  intro y hy
  rcases List.mem_append.1 hy with h1 | h1
  · exact h y h1
  · simp at h1; rw [h1]; exact hx
theorem book_right {ss : List ST} {ls : List OL} (hs : ∀ x ∈ ss, TinyS x) (hl : ∀ x ∈ ls, Tiny x) : spec_BookRight.f ss ls = some (T.BookRight ⟨ss.map tST, ls.map tOL⟩) := by
  unfold spec_BookRight.f
  rw [if_pos (by rw [all_stock hs, all_good hl]; rfl)]
theorem name_loop {p : ByteArray} (hp : p.size ≤ 100) (d : Nat) : ∀ (i : Int), 0 ≤ i → i ≤ p.size → (p.size : Int) - i = d → ∃ b, ∀ k, d < k → spec_l01Name.l0 k p i = some b := by
  induction d with
  | zero =>
    intro i h0 h1 hd
    refine ⟨true, fun k hk => ?_⟩
    obtain ⟨k, rfl⟩ : ∃ m, k = m + 1 := ⟨k - 1, by omega⟩
    simp only [spec_l01Name.l0]
    rw [if_neg (by omega)]
  | succ d ih =>
    intro i h0 h1 hd
    obtain ⟨b, hb⟩ := ih (i + 1) (by omega) (by omega) (by omega)
    refine ⟨if (65 ≤ bt p i ∧ bt p i ≤ 90) ∨ (48 ≤ bt p i ∧ bt p i ≤ 57) ∨ bt p i = 45 then b else false, fun k hk => ?_⟩
    obtain ⟨k, rfl⟩ : ∃ m, k = m + 1 := ⟨k - 1, by omega⟩
    simp only [spec_l01Name.l0]
    rw [if_pos (by omega), if_pos h0, wrap_id (x := i + 1) (by omega) (by omega), hb k (by omega)]
    generalize bt p i = c
    repeat' split
    all_goals first | rfl | (exfalso; omega)
theorem name_ok {p : ByteArray} (hp : p.size ≤ 100) : ∃ b, ∀ k, 110 < k → spec_l01Name.f k p = some b := by
  obtain ⟨b, hb⟩ := name_loop hp p.size 0 (by omega) (by omega) (by omega)
  have j0 : ∀ q : Bool, ∃ b, ∀ k, 110 < k → spec_l01Name.j0 k p q = some b := by
    intro q
    cases q with
    | true =>
      refine ⟨false, fun k hk => ?_⟩
      obtain ⟨k, rfl⟩ : ∃ m, k = m + 1 := ⟨k - 1, by omega⟩
      simp only [spec_l01Name.j0]
      rw [if_pos (by first | trivial | rfl)]
    | false =>
      refine ⟨b, fun k hk => ?_⟩
      obtain ⟨k, rfl⟩ : ∃ m, k = m + 1 := ⟨k - 1, by omega⟩
      simp only [spec_l01Name.j0]
      rw [if_neg (by simp)]
      exact hb k (by omega)
  unfold spec_l01Name.f
  by_cases h1 : (p.size : Int) < 1
  · obtain ⟨b, h⟩ := j0 true; exact ⟨b, fun k hk => by rw [if_pos h1, h k hk]⟩
  · by_cases h2 : (p.size : Int) > 12
    · obtain ⟨b, h⟩ := j0 true; exact ⟨b, fun k hk => by rw [if_neg h1, if_pos h2, h k hk]⟩
    · by_cases h3 : bt p 0 < 65
      · obtain ⟨b, h⟩ := j0 true; exact ⟨b, fun k hk => by rw [if_neg h1, if_neg h2, if_pos (by omega), if_pos h3, h k hk]⟩
      · obtain ⟨b, h⟩ := j0 (decide (bt p 0 > 90)); exact ⟨b, fun k hk => by rw [if_neg h1, if_neg h2, if_pos (by omega), if_neg h3, h k hk]⟩
theorem stock_loop {ss : List ST} {ls : List OL} (hl : ss.length ≤ 1000) (p : ByteArray) (d : Nat) : ∀ (i : Int), 0 ≤ i → i ≤ ss.length → (ss.length : Int) - i = d → ∃ r, (∀ k, d < k → spec_l10Stock.l0 k p i ss ls = some r) ∧ -1 ≤ r ∧ r < ss.length := by
  induction d with
  | zero =>
    intro i h0 h1 hd
    refine ⟨-1, fun k hk => ?_, by omega, by omega⟩
    obtain ⟨k, rfl⟩ : ∃ m, k = m + 1 := ⟨k - 1, by omega⟩
    simp only [spec_l10Stock.l0]
    rw [if_neg (by omega)]
  | succ d ih =>
    intro i h0 h1 hd
    by_cases he : (rd_T98 ss i).f0.toList = p.toList
    · refine ⟨i, fun k hk => ?_, by omega, by omega⟩
      obtain ⟨k, rfl⟩ : ∃ m, k = m + 1 := ⟨k - 1, by omega⟩
      simp only [spec_l10Stock.l0]
      rw [if_pos (by omega), if_pos h0, if_pos he]
    · obtain ⟨r, hr, b1, b2⟩ := ih (i + 1) (by omega) (by omega) (by omega)
      refine ⟨r, fun k hk => ?_, b1, b2⟩
      obtain ⟨k, rfl⟩ : ∃ m, k = m + 1 := ⟨k - 1, by omega⟩
      simp only [spec_l10Stock.l0]
      rw [if_pos (by omega), if_pos h0, if_neg he, wrap_id (x := i + 1) (by omega) (by omega), hr k (by omega)]
theorem stock_ok {ss : List ST} {ls : List OL} (hl : ss.length ≤ 1000) (p : ByteArray) : ∃ r, (∀ k, 1001 < k → spec_l10Stock.f k ss ls p = some r) ∧ -1 ≤ r ∧ r < ss.length := by
  obtain ⟨r, hr, b⟩ := stock_loop (ls := ls) hl p ss.length 0 (by omega) (by omega) (by omega)
  exact ⟨r, fun k hk => hr k (by omega), b⟩
theorem hand_ok {ss : List ST} {ls : List OL} (hs : ∀ x ∈ ss, TinyS x) (hls : ∀ x ∈ ls, Tiny x) (hl : ss.length ≤ 1000) (p : ByteArray) : ∃ r, ∀ k, 1001 < k → spec_BookHand.f k ss ls p = some r := by
  obtain ⟨r, hr, b1, b2⟩ := stock_ok (ls := ls) hl p
  unfold spec_BookHand.f
  by_cases h1 : (p.size : Int) > 20000
  · exact ⟨0, fun k _ => by rw [if_pos h1]⟩
  · cases hb : T.BookRight ⟨ss.map tST, ls.map tOL⟩ with
    | false => exact ⟨0, fun k _ => by rw [if_neg h1, book_right hs hls, hb]; rfl⟩
    | true =>
      by_cases h2 : r < 0
      · exact ⟨0, fun k hk => by rw [if_neg h1, book_right hs hls, hb]; simp only [Option.bind_some]; rw [if_pos (by first | trivial | rfl), hr k hk]; simp only [Option.bind_some]; rw [if_pos h2]⟩
      · exact ⟨(rd_T98 ss r).f1, fun k hk => by
          rw [if_neg h1, book_right hs hls, hb]
          simp only [Option.bind_some]
          rw [if_pos (by first | trivial | rfl), hr k hk]
          simp only [Option.bind_some]
          rw [if_neg h2, if_pos (by omega), if_pos b2]⟩
theorem move_loop {ss : List ST} {ls lt : List OL} (hs : ∀ x ∈ ss, TinyS x) (hl : ss.length ≤ 1000) {p : ByteArray} (hp : p.size ≤ 100) (q : Int) (d : Nat) : ∀ (i : Int) (done : Bool) (acc : List ST), 0 ≤ i → i ≤ ss.length → (ss.length : Int) - i = d → (∀ x ∈ acc, TinyS x) → acc.length ≤ i.toNat + (if done then 1 else 0) →
    ∃ r, (∀ k, 2 * d < k → spec_l10Move.l0 k p q done i ss ls acc lt = some (r, lt, true)) ∧ (∀ x ∈ r, TinyS x) ∧ r.length ≤ ss.length + 1 := by
  induction d with
  | zero =>
    intro i done acc h0 h1 hd ha hal
    cases done with
    | true =>
      simp only [if_true] at hal
      refine ⟨acc, fun k hk => ?_, ha, by omega⟩
      obtain ⟨k, rfl⟩ : ∃ m, k = m + 1 := ⟨k - 1, by omega⟩
      simp only [spec_l10Move.l0]
      rw [if_neg (by omega), if_pos (by first | trivial | rfl)]
    | false =>
      have hal : acc.length ≤ i.toNat := by simpa using hal
      refine ⟨acc ++ [⟨p, q⟩], fun k hk => ?_, stock_snoc ha (show TinyS (⟨p, q⟩ : ST) from hp), by simp; omega⟩
      obtain ⟨k, rfl⟩ : ∃ m, k = m + 1 := ⟨k - 1, by omega⟩
      simp only [spec_l10Move.l0]
      rw [if_neg (by omega), if_neg (by simp), if_pos (by omega)]
  | succ d ih =>
    intro i done acc h0 h1 hd ha hal
    have hlt : i < (ss.length : Int) := by omega
    have hal1 : acc.length ≤ 1001 := by split at hal <;> omega
    have hwi : wrap64 (i + 1) = i + 1 := wrap_id (by omega) (by omega)
    have hx := rd_stock hs h0 hlt
    -- the round behind the test, both ways
    have j3f : ∃ r, (∀ k, 2 * d < k → spec_l10Move.j3 (k + 1) p q done i false ss ls acc lt = some (r, lt, true)) ∧ (∀ x ∈ r, TinyS x) ∧ r.length ≤ ss.length + 1 := by
      by_cases he : (rd_T98 ss i).f0.toList = p.toList
      · obtain ⟨r, hr, g⟩ := ih (i + 1) done acc (by omega) (by omega) (by omega) ha (by split at hal <;> split <;> simp_all <;> omega)
        refine ⟨r, fun k hk => ?_, g⟩
        simp only [spec_l10Move.j3]
        rw [if_neg (by simp), if_pos h0, if_pos hlt, if_pos he, hwi, hr k hk]
      · obtain ⟨r, hr, g⟩ := ih (i + 1) done (acc ++ [⟨(rd_T98 ss i).f0, (rd_T98 ss i).f1⟩]) (by omega) (by omega) (by omega) (stock_snoc ha hx) (by rw [List.length_append]; simp only [List.length_singleton]; split at hal <;> split <;> simp_all <;> omega)
        refine ⟨r, fun k hk => ?_, g⟩
        simp only [spec_l10Move.j3]
        rw [if_neg (by simp), if_pos h0, if_pos hlt, if_neg he, if_pos (by omega), hwi, hr k hk]
    have j3t : done = false → ∃ r, (∀ k, 2 * d < k → spec_l10Move.j3 (k + 1) p q done i true ss ls acc lt = some (r, lt, true)) ∧ (∀ x ∈ r, TinyS x) ∧ r.length ≤ ss.length + 1 := by
      rintro rfl
      have hal : acc.length ≤ i.toNat := by simpa using hal
      by_cases he : (rd_T98 ss i).f0.toList = p.toList
      · obtain ⟨r, hr, g⟩ := ih (i + 1) true (acc ++ [⟨p, q⟩]) (by omega) (by omega) (by omega) (stock_snoc ha (show TinyS (⟨p, q⟩ : ST) from hp)) (by simp; omega)
        refine ⟨r, fun k hk => ?_, g⟩
        simp only [spec_l10Move.j3, Option.bind_some]
        rw [if_pos (by first | trivial | rfl), if_pos (by omega), if_pos h0, if_pos hlt, if_pos he, hwi, hr k hk]
      · obtain ⟨r, hr, g⟩ := ih (i + 1) true (acc ++ [⟨p, q⟩] ++ [⟨(rd_T98 ss i).f0, (rd_T98 ss i).f1⟩]) (by omega) (by omega) (by omega) (stock_snoc (stock_snoc ha (show TinyS (⟨p, q⟩ : ST) from hp)) hx) (by simp; omega)
        refine ⟨r, fun k hk => ?_, g⟩
        simp only [spec_l10Move.j3, Option.bind_some]
        rw [if_pos (by first | trivial | rfl), if_pos (by omega), if_pos h0, if_pos hlt, if_neg he, if_pos (by simp; omega), hwi, hr k hk]
    have step : ∀ b : Bool, (∃ r, (∀ k, 2 * d < k → spec_l10Move.j3 (k + 1) p q done i b ss ls acc lt = some (r, lt, true)) ∧ (∀ x ∈ r, TinyS x) ∧ r.length ≤ ss.length + 1) →
        (∀ k, spec_l10Move.l0 (k + 1) p q done i ss ls acc lt = spec_l10Move.j3 k p q done i b ss ls acc lt) →
        ∃ r, (∀ k, 2 * (d + 1) < k → spec_l10Move.l0 k p q done i ss ls acc lt = some (r, lt, true)) ∧ (∀ x ∈ r, TinyS x) ∧ r.length ≤ ss.length + 1 := by
      rintro b ⟨r, hr, g⟩ hk
      refine ⟨r, fun k hkk => ?_, g⟩
      obtain ⟨k, rfl⟩ : ∃ m, k = m + 2 := ⟨k - 2, by omega⟩
      rw [hk (k + 1), hr k (by omega)]
    obtain hdn | hdn : done = true ∨ done = false := by cases done <;> simp
    · refine step false j3f fun k => ?_
      simp only [spec_l10Move.l0]
      rw [if_pos hlt, if_pos hdn]
    · refine step (!(Op.bytesLess ((rd_T98 ss i).f0.toList) p.toList)) ?_ fun k => ?_
      · cases (!(Op.bytesLess ((rd_T98 ss i).f0.toList) p.toList)) with
        | true => exact j3t hdn
        | false => exact j3f
      · simp only [spec_l10Move.l0]
        rw [if_pos hlt, if_neg (by simp [hdn]), if_pos h0]
theorem move_ok {ss : List ST} {ls : List OL} (hs : ∀ x ∈ ss, TinyS x) (hls : ∀ x ∈ ls, Tiny x) (hl : ss.length ≤ 1000) (hll : ls.length ≤ 1000) {p : ByteArray} (hp : p.size ≤ 100) (q : Int) :
    ∃ r b, (∀ k, 3000 < k → spec_l10Move.f k ss ls p q = some (r, ls, b)) ∧ (∀ x ∈ r, TinyS x) ∧ r.length ≤ ss.length + 1 := by
  obtain ⟨h, hh⟩ := hand_ok hs hls hl p
  obtain ⟨st, hst, _, _⟩ := stock_ok (ls := ls) hl p
  obtain ⟨nb, hnb⟩ := name_ok hp
  obtain ⟨r0, hr0, g0, n0⟩ := move_loop (ls := ls) (lt := ls) hs hl hp (wrap64 (h + q)) ss.length 0 false [] (by omega) (by omega) (by omega) (by simp) (by simp)
  have j1 : ∀ b : Bool, ∃ r b', (∀ k, 2600 < k → spec_l10Move.j1 k p (wrap64 (h + q)) b ss ls ss ls ls = some (r, ls, b')) ∧ (∀ x ∈ r, TinyS x) ∧ r.length ≤ ss.length + 1 := by
    intro b
    cases b with
    | true =>
      refine ⟨ss, false, fun k hk => ?_, hs, by omega⟩
      obtain ⟨k, rfl⟩ : ∃ m, k = m + 1 := ⟨k - 1, by omega⟩
      simp only [spec_l10Move.j1]
      rw [if_pos (by first | trivial | rfl)]
    | false =>
      refine ⟨r0, true, fun k hk => ?_, g0, n0⟩
      obtain ⟨k, rfl⟩ : ∃ m, k = m + 1 := ⟨k - 1, by omega⟩
      simp only [spec_l10Move.j1]
      rw [if_neg (by simp)]
      exact hr0 k (by omega)
  have j0 : ∀ b : Bool, ∃ r b', (∀ k, 2701 < k → spec_l10Move.j0 k p q b ss ls ss ls = some (r, ls, b')) ∧ (∀ x ∈ r, TinyS x) ∧ r.length ≤ ss.length + 1 := by
    intro b
    cases b with
    | true =>
      refine ⟨ss, false, fun k hk => ?_, hs, by omega⟩
      obtain ⟨k, rfl⟩ : ∃ m, k = m + 1 := ⟨k - 1, by omega⟩
      simp only [spec_l10Move.j0]
      rw [if_pos (by first | trivial | rfl)]
    | false =>
      have key : ∀ b : Bool, (∀ k, 2700 < k → spec_l10Move.j0 (k + 1) p q false ss ls ss ls = spec_l10Move.j1 k p (wrap64 (h + q)) b ss ls ss ls ls) → ∃ r b', (∀ k, 2701 < k → spec_l10Move.j0 k p q false ss ls ss ls = some (r, ls, b')) ∧ (∀ x ∈ r, TinyS x) ∧ r.length ≤ ss.length + 1 := by
        intro b hb
        obtain ⟨r, b', h1, g⟩ := j1 b
        refine ⟨r, b', fun k hk => ?_, g⟩
        obtain ⟨k, rfl⟩ : ∃ m, k = m + 1 := ⟨k - 1, by omega⟩
        rw [hb k (by omega), h1 k (by omega)]
      by_cases c1 : wrap64 (h + q) < 0
      · refine key true fun k hk => ?_
        simp only [spec_l10Move.j0]
        rw [if_neg (by simp), hh k (by omega)]
        simp only [Option.bind_some]
        rw [if_pos c1]
      · by_cases c2 : wrap64 (h + q) > 1000000000
        · refine key true fun k hk => ?_
          simp only [spec_l10Move.j0]
          rw [if_neg (by simp), hh k (by omega)]
          simp only [Option.bind_some]
          rw [if_neg c1, if_pos c2]
        · by_cases c3 : st < 0
          · refine key (decide ((ss.length : Int) ≥ 100)) fun k hk => ?_
            simp only [spec_l10Move.j0]
            rw [if_neg (by simp), hh k (by omega)]
            simp only [Option.bind_some]
            rw [if_neg c1, if_neg c2, hst k (by omega)]
            simp only [Option.bind_some]
            rw [if_pos c3]
          · refine key false fun k hk => ?_
            simp only [spec_l10Move.j0]
            rw [if_neg (by simp), hh k (by omega)]
            simp only [Option.bind_some]
            rw [if_neg c1, if_neg c2, hst k (by omega)]
            simp only [Option.bind_some]
            rw [if_neg c3]
  have hc : spec_l10Copy.f ss ls = some (ss, ls) := by
    unfold spec_l10Copy.f
    simp only [Option.bind_some, List.nil_append, List.length_nil]
    rw [if_pos (by omega), if_pos (by omega)]
  have top : ∀ b : Bool, (∀ k, 2800 < k → spec_l10Move.f k ss ls p q = spec_l10Move.j0 k p q b ss ls ss ls) → ∃ r b', (∀ k, 3000 < k → spec_l10Move.f k ss ls p q = some (r, ls, b')) ∧ (∀ x ∈ r, TinyS x) ∧ r.length ≤ ss.length + 1 := by
    intro b hb
    obtain ⟨r, b', h1, g⟩ := j0 b
    exact ⟨r, b', fun k hk => by rw [hb k (by omega), h1 k (by omega)], g⟩
  cases hr : T.BookRight ⟨ss.map tST, ls.map tOL⟩ with
  | false =>
    refine top true fun k hk => ?_
    unfold spec_l10Move.f
    rw [hc]
    simp only [Option.bind_some]
    rw [book_right hs hls, hr]
    simp only [Option.bind_some]
    rw [if_neg (by simp)]
  | true =>
    cases nb with
    | false =>
      refine top true fun k hk => ?_
      unfold spec_l10Move.f
      rw [hc]
      simp only [Option.bind_some]
      rw [book_right hs hls, hr]
      simp only [Option.bind_some]
      rw [if_pos (by first | trivial | rfl), hnb k (by omega)]
      simp only [Option.bind_some]
      rw [if_neg (by simp)]
    | true =>
      by_cases c1 : q < -1000000000
      · refine top true fun k hk => ?_
        unfold spec_l10Move.f
        rw [hc]
        simp only [Option.bind_some]
        rw [book_right hs hls, hr]
        simp only [Option.bind_some]
        rw [if_pos (by first | trivial | rfl), hnb k (by omega)]
        simp only [Option.bind_some]
        rw [if_pos (by first | trivial | rfl), if_pos c1]
      · refine top (decide (q > 1000000000)) fun k hk => ?_
        unfold spec_l10Move.f
        rw [hc]
        simp only [Option.bind_some]
        rw [book_right hs hls, hr]
        simp only [Option.bind_some]
        rw [if_pos (by first | trivial | rfl), hnb k (by omega)]
        simp only [Option.bind_some]
        rw [if_pos (by first | trivial | rfl), if_neg c1]
theorem dec_ok {a : Int} (h0 : 0 < a) (h1 : a ≤ 2000) : ∃ t, (∀ k : Nat, 6 < k → spec_l01Dec.f a = some t) ∧ t.size ≤ 20 :=
  ⟨T.dec a, fun k hk => by unfold spec_l01Dec.f; rw [if_pos ⟨by omega, by omega⟩], T.dec_size (by omega) (by omega)⟩
theorem item_ok {xs : List Int} (hx : Bytes xs) {at_ : Int} (ha : 0 ≤ at_) (mix sz : Int) : ∃ r at' mix', spec_l01Src_l10Item.f xs at_ mix sz = some (r, at', mix', sz) ∧ 0 ≤ at' ∧ r.size ≤ 4 := by
  obtain ⟨r, a1, m1, e1, h1, hs⟩ := pick_ok hx ha mix sz [(⟨#[66, 79, 76, 84]⟩ : ByteArray), (⟨#[78, 85, 84]⟩ : ByteArray), (⟨#[71, 69, 65, 82]⟩ : ByteArray), (⟨#[67, 65, 77]⟩ : ByteArray), (⟨#[66, 45, 49, 48]⟩ : ByteArray), (⟨#[90, 57]⟩ : ByteArray)] (by simp) (by simp) 4 (by decide)
  refine ⟨r, a1, m1, ?_, h1, hs⟩
  unfold spec_l01Src_l10Item.f
  rw [e1]
  rfl
theorem many_loop {xs : List Int} (hx : Bytes xs) (ls : List OL) (d : Nat) : ∀ (i at_ mix sz : Int) (ss : List ST), 0 ≤ i → i ≤ 1000 → (103 : Int) - ss.length ≤ d → i + d ≤ 900 → 0 ≤ at_ → (∀ x ∈ ss, TinyS x) → ss.length ≤ 103 →
    ∃ r at' mix', (∀ k, d + 10 < k → spec_l01Src_l10Book.l1 k i xs at_ mix sz ss ls = some (r, ls, at', mix', sz)) ∧ (∀ x ∈ r, TinyS x) ∧ r.length ≤ 103 ∧ 0 ≤ at' := by
  induction d with
  | zero =>
    intro i at_ mix sz ss h0 h1 hd hb ha hs hl
    obtain ⟨v, a1, m1, e1, g1, v0, v1⟩ := n_ok hx ha mix sz 3 (by omega)
    refine ⟨ss, a1, m1, fun k hk => ?_, hs, hl, g1⟩
    obtain ⟨k, rfl⟩ : ∃ m, k = m + 1 := ⟨k - 1, by omega⟩
    simp only [spec_l01Src_l10Book.l1]
    rw [e1]
    simp only [Option.bind_some]
    rw [wrap_id (x := 99 + v) (by omega) (by omega), if_neg (by omega)]
  | succ d ih =>
    intro i at_ mix sz ss h0 h1 hd hb ha hs hl
    obtain ⟨v, a1, m1, e1, g1, v0, v1⟩ := n_ok hx ha mix sz 3 (by omega)
    by_cases hc : (ss.length : Int) < 99 + v
    · obtain ⟨t, ht, hts⟩ := dec_ok (a := 1000 + i) (by omega) (by omega)
      obtain ⟨r, a2, m2, e2, g2⟩ := ih (i + 1) a1 m1 sz (ss ++ [⟨(⟨#[73]⟩ : ByteArray) ++ t, i⟩]) (by omega) (by omega) (by simp; omega) (by omega) g1 (stock_snoc hs (by
        show ((⟨#[73]⟩ : ByteArray) ++ t).size ≤ 100
        rw [ByteArray.size_append, show (⟨#[73]⟩ : ByteArray).size = 1 from rfl]; omega)) (by simp; omega)
      refine ⟨r, a2, m2, fun k hk => ?_, g2⟩
      obtain ⟨k, rfl⟩ : ∃ m, k = m + 1 := ⟨k - 1, by omega⟩
      simp only [spec_l01Src_l10Book.l1]
      rw [e1]
      simp only [Option.bind_some]
      rw [wrap_id (x := 99 + v) (by omega) (by omega), if_pos hc, wrap_id (x := 1000 + i) (by omega) (by omega), ht k (by omega)]
      simp only [Option.bind_some]
      rw [if_pos (by omega), if_pos (by omega), wrap_id (x := i + 1) (by omega) (by omega)]
      exact e2 k (by omega)
    · refine ⟨ss, a1, m1, fun k hk => ?_, hs, hl, g1⟩
      obtain ⟨k, rfl⟩ : ∃ m, k = m + 1 := ⟨k - 1, by omega⟩
      simp only [spec_l01Src_l10Book.l1]
      rw [e1]
      simp only [Option.bind_some]
      rw [wrap_id (x := 99 + v) (by omega) (by omega), if_neg hc]
theorem book_loop {xs : List Int} (hx : Bytes xs) (ls : List OL) (hls : ∀ x ∈ ls, Tiny x) (hll : ls.length ≤ 1000) (d : Nat) : ∀ (i at_ mix sz : Int) (ss : List ST), i = d → 0 ≤ at_ → (∀ x ∈ ss, TinyS x) → ss.length + d ≤ 100 →
    ∃ r at' mix', (∀ k, d + 4000 < k → spec_l01Src_l10Book.l0 k i xs at_ mix sz ss ls = some (r, ls, at', mix', sz)) ∧ (∀ x ∈ r, TinyS x) ∧ r.length ≤ 103 ∧ 0 ≤ at' := by
  induction d with
  | zero =>
    intro i at_ mix sz ss hi ha hs hl
    obtain ⟨b, a1, m1, e1, g1⟩ := one_ok hx ha mix sz 15 (by omega)
    cases b with
    | false =>
      refine ⟨ss, a1, m1, fun k hk => ?_, hs, by omega, g1⟩
      obtain ⟨k, rfl⟩ : ∃ m, k = m + 1 := ⟨k - 1, by omega⟩
      simp only [spec_l01Src_l10Book.l0]
      rw [if_neg (by omega), e1]
      simp
    | true =>
      obtain ⟨v, a2, m2, e2, g2, v0, v1⟩ := n_ok hx g1 m1 sz 4 (by omega)
      by_cases c0 : v = 0
      · obtain ⟨t, a3, m3, e3, g3, ts⟩ := item_ok hx g2 m2 sz
        refine ⟨ss ++ [⟨t, 0⟩], a3, m3, fun k hk => ?_, stock_snoc hs (show TinyS (⟨t, 0⟩ : ST) from (show t.size ≤ 100 by omega)), by simp; omega, g3⟩
        obtain ⟨k, rfl⟩ : ∃ m, k = m + 1 := ⟨k - 1, by omega⟩
        simp only [spec_l01Src_l10Book.l0]
        rw [if_neg (by omega), e1]
        simp only [Option.bind_some]
        rw [if_pos (by first | trivial | rfl), e2]
        simp only [Option.bind_some]
        rw [if_pos c0, e3]
        simp only [Option.bind_some]
        rw [if_pos (by omega)]
      · by_cases c1 : v = 1
        · obtain ⟨u, a3, m3, e3, g3, _, _⟩ := n_ok hx g2 m2 sz 2 (by omega)
          refine ⟨ss ++ [⟨(⟨#[90, 90, 90]⟩ : ByteArray), wrap64 (1000000000 + u)⟩], a3, m3, fun k hk => ?_, stock_snoc hs (show TinyS (⟨(⟨#[90, 90, 90]⟩ : ByteArray), wrap64 (1000000000 + u)⟩ : ST) from (show (⟨#[90, 90, 90]⟩ : ByteArray).size ≤ 100 by decide)), by simp; omega, g3⟩
          obtain ⟨k, rfl⟩ : ∃ m, k = m + 1 := ⟨k - 1, by omega⟩
          simp only [spec_l01Src_l10Book.l0]
          rw [if_neg (by omega), e1]
          simp only [Option.bind_some]
          rw [if_pos (by first | trivial | rfl), e2]
          simp only [Option.bind_some]
          rw [if_neg c0, if_pos c1, e3]
          simp only [Option.bind_some]
          rw [if_pos (by omega)]
        · by_cases c2 : v = 2
          · refine ⟨ss ++ [⟨(⟨#[122, 122]⟩ : ByteArray), 0⟩], a2, m2, fun k hk => ?_, stock_snoc hs (show TinyS (⟨(⟨#[122, 122]⟩ : ByteArray), 0⟩ : ST) from (show (⟨#[122, 122]⟩ : ByteArray).size ≤ 100 by decide)), by simp; omega, g2⟩
            obtain ⟨k, rfl⟩ : ∃ m, k = m + 1 := ⟨k - 1, by omega⟩
            simp only [spec_l01Src_l10Book.l0]
            rw [if_neg (by omega), e1]
            simp only [Option.bind_some]
            rw [if_pos (by first | trivial | rfl), e2]
            simp only [Option.bind_some]
            rw [if_neg c0, if_neg c1, if_pos c2, if_pos (by omega)]
          · obtain ⟨r, a3, m3, e3, g3⟩ := many_loop hx ls 103 0 a2 m2 sz [] (by omega) (by omega) (by simp) (by omega) g2 (by simp) (by simp)
            refine ⟨r, a3, m3, fun k hk => ?_, g3⟩
            obtain ⟨k, rfl⟩ : ∃ m, k = m + 1 := ⟨k - 1, by omega⟩
            simp only [spec_l01Src_l10Book.l0]
            rw [if_neg (by omega), e1]
            simp only [Option.bind_some]
            rw [if_pos (by first | trivial | rfl), e2]
            simp only [Option.bind_some]
            rw [if_neg c0, if_neg c1, if_neg c2]
            exact e3 k (by omega)
  | succ d ih =>
    intro i at_ mix sz ss hi ha hs hl
    obtain ⟨t, a1, m1, e1, g1, ts⟩ := item_ok hx ha mix sz
    obtain ⟨v, a2, m2, e2, g2, _, _⟩ := n_ok hx g1 m1 sz 60 (by omega)
    obtain ⟨r1, b1, e3, h3, n3⟩ := move_ok hs hls (by omega) hll (p := t) (by omega) v
    obtain ⟨r, a4, m4, e4, g4⟩ := ih (i - 1) a2 m2 sz r1 (by omega) g2 h3 (by omega)
    refine ⟨r, a4, m4, fun k hk => ?_, g4⟩
    obtain ⟨k, rfl⟩ : ∃ m, k = m + 1 := ⟨k - 1, by omega⟩
    simp only [spec_l01Src_l10Book.l0]
    rw [if_pos (by omega), e1]
    simp only [Option.bind_some]
    rw [e2]
    simp only [Option.bind_some]
    rw [e3 k (by omega)]
    simp only [Option.bind_some]
    rw [wrap_id (x := i - 1) (by omega) (by omega)]
    exact e4 k (by omega)
/-- the draw of a book -/
theorem book_ok' {xs : List Int} (hx : Bytes xs) {at_ : Int} (ha : 0 ≤ at_) (mix sz : Int) (s0 : 0 ≤ sz) (s1 : sz ≤ 12) :
    ∃ r ls at' mix', (∀ k, 5000 < k → spec_l01Src_l10Book.f k xs at_ mix sz = some (r, ls, at', mix', sz)) ∧ (∀ x ∈ r, TinyS x) ∧ r.length ≤ 103 ∧ (∀ x ∈ ls, Tiny x) ∧ ls.length ≤ 203 ∧ 0 ≤ at' := by
  obtain ⟨ls, a1, m1, e1, h1, g1, n1⟩ := lines_ok hx ha mix sz s0 s1
  obtain ⟨v, a2, m2, e2, g2, v0, v1⟩ := n_ok hx h1 m1 sz 5 (by omega)
  obtain ⟨r, a3, m3, e3, h3, n3, g3⟩ := book_loop hx ls g1 (by omega) v.toNat v a2 m2 sz [] (by omega) g2 (by simp) (by simp; omega)
  refine ⟨r, ls, a3, m3, fun k hk => ?_, h3, n3, g1, n1, g3⟩
  unfold spec_l01Src_l10Book.f
  rw [e1 k (by omega)]
  simp only [Option.bind_some]
  rw [e2]
  simp only [Option.bind_some]
  exact e3 k (by omega)
end Go.Proofs.Ytplkgcoeeohbnaa.DFnRate
