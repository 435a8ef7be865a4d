/- The draws of lines: they come to an end, and what they draw is small. -/
import Derived.Test.YtplkgcoeeohbnaaPFnRatex3
import Derived.Test.YtplkgcoeeohbnaaNLG
namespace Go.Proofs.Ytplkgcoeeohbnaa.DFnRate
open Go.RowKit Go.Proofs.Ytplkgcoeeohbnaa.PFnRate Go.Proofs.YtplkgcoeeohbnaaW.PrintWords Go.Proofs.YtplkgcoeeohbnaaW.PrintLast
abbrev OL := S33
def Tiny (x : OL) : Prop := x.f0.size ≤ 100 ∧ x.f1.size ≤ 100 ∧ x.f3.size ≤ 100
def Bytes (xs : List Int) : Prop := ∀ x ∈ xs, 0 ≤ x ∧ x ≤ 255
theorem okOL_good {x : OL} (h : Tiny x) : okOL x = true := by
  obtain ⟨h1, h2, h3⟩ := h
  simp only [okOL, Bool.and_eq_true, decide_eq_true_eq]
  omega
theorem all_good {xs : List OL} (h : ∀ x ∈ xs, Tiny x) : xs.all okOL = true := List.all_eq_true.2 fun x hx => okOL_good (h x hx)
theorem rd_byte {xs : List Int} (h : Bytes xs) {i : Int} (h0 : 0 ≤ i) (h1 : i < xs.length) : 0 ≤ rd xs i ∧ rd xs i ≤ 255 := by
  have : rd xs i = xs[i.toNat]'(by omega) := by simp [rd, List.getD_eq_getElem?_getD, show i.toNat < xs.length by omega]
  rw [this]
  exact h _ (List.getElem_mem _)
theorem n_ok {xs : List Int} (hx : Bytes xs) {at_ : Int} (ha : 0 ≤ at_) (mix sz a1 : Int) (h : a1 ≤ 9223372036854775807) :
    ∃ r at' mix', spec_l01Src_n.f xs at_ mix sz a1 = some (r, at', mix', sz) ∧ 0 ≤ at' ∧ 0 ≤ r ∧ (r < a1 ∨ r = 0) := by
  unfold spec_l01Src_n.f
  by_cases h1 : a1 ≤ 1
  · rw [if_pos h1]; exact ⟨_, _, _, rfl, ha, by omega, .inr rfl⟩
  · rw [if_neg h1, if_neg (by omega)]
    by_cases h2 : at_ < (xs.length : Int)
    · rw [if_pos h2, if_pos (rd_byte hx ha h2)]
      have := T.nVal_range (rd xs at_) (T.nMix mix) a1 (by omega) h
      exact ⟨_, _, _, rfl, by omega, this.1, .inl this.2⟩
    · rw [if_neg h2]
      have := T.nVal_range 0 (T.nMix mix) a1 (by omega) h
      exact ⟨_, _, _, rfl, ha, this.1, .inl this.2⟩
theorem one_ok {xs : List Int} (hx : Bytes xs) {at_ : Int} (ha : 0 ≤ at_) (mix sz a1 : Int) (h : a1 ≤ 9223372036854775807) :
    ∃ r at' mix', spec_l01Src_one.f xs at_ mix sz a1 = some (r, at', mix', sz) ∧ 0 ≤ at' := by
  obtain ⟨r, at', mix', e, h1, _⟩ := n_ok hx ha mix sz a1 h
  unfold spec_l01Src_one.f
  rw [e]
  exact ⟨_, _, _, rfl, h1⟩
theorem line_ok {xs : List Int} (hx : Bytes xs) {at_ : Int} (ha : 0 ≤ at_) (mix sz : Int) :
    ∃ (l : OL) (at' mix' : Int), spec_l01Src_l09Line.f xs at_ mix sz = some (l.f0, l.f1, l.f2, l.f3, l.f4, l.f5, l.f6, l.f7, at', mix', sz) ∧ 0 ≤ at' ∧ Tiny l := by
  unfold spec_l01Src_l09Line.f
  rw [if_pos ⟨hx, ha⟩]
  obtain ⟨t1, t2, t3⟩ := T.lineF_tiny ⟨xs, at_.toNat, mix, sz⟩
  have hz := T.lineF_sz ⟨xs, at_.toNat, mix, sz⟩
  generalize T.lineF ⟨xs, at_.toNat, mix, sz⟩ = r at *
  exact ⟨⟨r.1.partner, r.1.ref, r.1.no, r.1.item, r.1.ordered, r.1.sent, r.1.got, r.1.cut⟩, r.2.at_, r.2.mix, by simp only at hz; simp only [hz], by omega, Nat.le_trans t1 (by omega), Nat.le_trans t2 (by omega), Nat.le_trans t3 (by omega)⟩
theorem right_ok {xs : List OL} (h : ∀ x ∈ xs, Tiny x) : ∃ b, spec_LinesRight.f xs = some b := by
  unfold spec_LinesRight.f
  rw [if_pos (all_good h)]
  exact ⟨_, rfl⟩
theorem rd_good {xs : List OL} (h : ∀ x ∈ xs, Tiny x) {i : Int} (h0 : 0 ≤ i) (h1 : i < xs.length) : Tiny (rd_T33 xs i) := by
  have : rd_T33 xs i = xs[i.toNat]'(by omega) := by simp [rd_T33, List.getD_eq_getElem?_getD, show i.toNat < xs.length by omega]
  rw [this]
  exact h _ (List.getElem_mem _)
theorem wrap_id {x : Int} (h0 : -9223372036854775808 ≤ x) (h1 : x ≤ 9223372036854775807) : wrap64 x = x := by unfold wrap64; omega
theorem before_ok (a b : OL) : ∃ t, spec_l09Before.f a.f0 a.f1 a.f2 a.f3 a.f4 a.f5 a.f6 a.f7 b.f0 b.f1 b.f2 b.f3 b.f4 b.f5 b.f6 b.f7 = some t := by
  unfold spec_l09Before.f
  repeat' split
  all_goals exact ⟨_, rfl⟩
theorem good_snoc {xs : List OL} {x : OL} (h : ∀ x ∈ xs, Tiny x) (hx : Tiny x) : ∀ y ∈ xs ++ [x], Tiny y := by
  intro y hy
  rcases List.mem_append.1 hy with h1 | h1
  · exact h y h1
  · simp at h1; rw [h1]; exact hx
theorem add_loop {xs : List OL} (hxs : ∀ x ∈ xs, Tiny x) (hl : xs.length ≤ 400) {x5 : List OL} (h5 : ∀ x ∈ x5, Tiny x) (h5l : x5.length ≤ xs.length) {l : OL} (hg : Tiny l) (d : Nat) :
    ∀ (i : Int) (acc : List OL) (done : Bool), 0 ≤ i → i ≤ xs.length → (xs.length : Int) - i = d → (∀ x ∈ acc, Tiny x) → acc.length ≤ i.toNat + (if done then 1 else 0) →
    ∃ r, (∀ k, d < k → spec_LinesAdd.l0 k xs x5 acc done i l.f0 l.f1 l.f2 l.f3 l.f4 l.f5 l.f6 l.f7 = some r) ∧ (∀ x ∈ r, Tiny x) ∧ r.length ≤ xs.length + 1 := by
  induction d with
  | zero =>
    intro i acc done h0 h1 hd ha hal
    cases done with
    | true =>
      obtain ⟨b, hb⟩ := right_ok ha
      refine ⟨if b = true then acc else x5, fun k hk => ?_, ?_, ?_⟩
      · obtain ⟨k, rfl⟩ : ∃ m, k = m + 1 := ⟨k - 1, by omega⟩
        simp only [spec_LinesAdd.l0]
        rw [if_neg (by omega), if_pos (by first | trivial | rfl), hb]
        simp only [Option.bind_some]
        split <;> rfl
      · split <;> assumption
      · simp only [if_true] at hal
        split <;> omega
    | false =>
      obtain ⟨b, hb⟩ := right_ok (good_snoc ha hg)
      simp only [Bool.false_eq_true, if_false] at hal
      refine ⟨if b = true then acc ++ [l] else x5, fun k hk => ?_, ?_, ?_⟩
      · obtain ⟨k, rfl⟩ : ∃ m, k = m + 1 := ⟨k - 1, by omega⟩
        simp only [spec_LinesAdd.l0]
        rw [if_neg (by omega), if_neg (by simp), if_pos (by omega)]
        simp only [Option.bind_some]
        have hb' : spec_LinesRight.f (acc ++ [(⟨l.f0, l.f1, l.f2, l.f3, l.f4, l.f5, l.f6, l.f7⟩ : OL)]) = some b := hb
        rw [hb']
        simp only [Option.bind_some]
        split <;> rfl
      · split
        · exact good_snoc ha hg
        · exact h5
      · split
        · simp; omega
        · omega
  | succ d ih =>
    intro i acc done h0 h1 hd ha hal
    have hlt : i < (xs.length : Int) := by omega
    have hw : wrap64 (i + 1) = i + 1 := wrap_id (by omega) (by omega)
    have hr := rd_good hxs h0 hlt
    cases done with
    | true =>
      simp only [if_true] at hal
      obtain ⟨r, e, g, n⟩ := ih (i + 1) (acc ++ [rd_T33 xs i]) true (by omega) (by omega) (by omega) (good_snoc ha hr) (by simp; omega)
      refine ⟨r, fun k hk => ?_, g, n⟩
      obtain ⟨k, rfl⟩ : ∃ m, k = m + 1 := ⟨k - 1, by omega⟩
      simp only [spec_LinesAdd.l0]
      rw [if_pos hlt, if_pos (by first | trivial | rfl), if_pos h0, if_pos (by omega), hw]
      exact e k (by omega)
    | false =>
      simp only [Bool.false_eq_true, if_false] at hal
      obtain ⟨t, ht⟩ := before_ok l (rd_T33 xs i)
      cases t with
      | true =>
        obtain ⟨r, e, g, n⟩ := ih (i + 1) ((acc ++ [l]) ++ [rd_T33 xs i]) true (by omega) (by omega) (by omega) (good_snoc (good_snoc ha hg) hr) (by simp; omega)
        refine ⟨r, fun k hk => ?_, g, n⟩
        obtain ⟨k, rfl⟩ : ∃ m, k = m + 1 := ⟨k - 1, by omega⟩
        simp only [spec_LinesAdd.l0]
        rw [if_pos hlt, if_neg (by simp), if_pos h0, ht]
        simp only [Option.bind_some]
        rw [if_pos (by first | trivial | rfl), if_pos (by omega), if_pos (by simp; omega), hw]
        exact e k (by omega)
      | false =>
        obtain ⟨r, e, g, n⟩ := ih (i + 1) (acc ++ [rd_T33 xs i]) false (by omega) (by omega) (by omega) (good_snoc ha hr) (by simp; omega)
        refine ⟨r, fun k hk => ?_, g, n⟩
        obtain ⟨k, rfl⟩ : ∃ m, k = m + 1 := ⟨k - 1, by omega⟩
        simp only [spec_LinesAdd.l0]
        rw [if_pos hlt, if_neg (by simp), if_pos h0, ht]
        simp only [Option.bind_some]
        rw [if_neg (by simp), if_pos (by omega), hw]
        exact e k (by omega)
theorem add_ok {xs : List OL} (hxs : ∀ x ∈ xs, Tiny x) (hl : xs.length ≤ 400) {l : OL} (hg : Tiny l) :
    ∃ r, (∀ k, 401 < k → spec_LinesAdd.f k xs l.f0 l.f1 l.f2 l.f3 l.f4 l.f5 l.f6 l.f7 = some r) ∧ (∀ x ∈ r, Tiny x) ∧ r.length ≤ xs.length + 1 := by
  obtain ⟨b, hb⟩ := right_ok hxs
  cases b with
  | true =>
    obtain ⟨r, e, g, n⟩ := add_loop hxs hl hxs (Nat.le_refl _) hg xs.length 0 [] false (by omega) (by omega) (by omega) (by simp) (by simp)
    refine ⟨r, fun k hk => ?_, g, n⟩
    unfold spec_LinesAdd.f
    rw [if_neg (by omega)]
    simp only [Option.bind_some, List.nil_append, List.length_nil]
    rw [if_pos (by omega), hb]
    simp only [Option.bind_some]
    rw [if_pos (by first | trivial | rfl)]
    exact e k (by omega)
  | false =>
    refine ⟨xs, fun k hk => ?_, hxs, by omega⟩
    unfold spec_LinesAdd.f
    rw [if_neg (by omega)]
    simp only [Option.bind_some, List.nil_append, List.length_nil]
    rw [if_pos (by omega), hb]
    simp
theorem j2_ok {xs : List Int} (hx : Bytes xs) {at_ : Int} (ha : 0 ≤ at_) (mix sz : Int) {x3 : List OL} (h3 : ∀ x ∈ x3, Tiny x) (hl : x3.length ≤ 400) :
    ∃ r at' mix', (∀ k, 0 < k → spec_l01Src_l09Lines.j2 k x3 xs at_ mix sz = some (r, at', mix', sz)) ∧ 0 ≤ at' ∧ (∀ x ∈ r, Tiny x) ∧ r.length ≤ x3.length + 1 := by
  obtain ⟨b, a1, m1, e1, h1⟩ := one_ok hx ha mix sz 15 (by omega)
  cases b with
  | true =>
    obtain ⟨l, a2, m2, e2, h2, g2⟩ := line_ok hx h1 m1 sz
    refine ⟨x3 ++ [l], a2, m2, fun k hk => ?_, h2, good_snoc h3 g2, by simp⟩
    obtain ⟨k, rfl⟩ : ∃ m, k = m + 1 := ⟨k - 1, by omega⟩
    simp only [spec_l01Src_l09Lines.j2]
    rw [e1]
    simp only [Option.bind_some, List.nil_append, List.length_nil]
    rw [if_pos (by first | trivial | rfl), if_pos (by omega), e2]
    simp only [Option.bind_some]
    rw [if_pos (by omega)]
  | false =>
    refine ⟨x3, a1, m1, fun k hk => ?_, h1, h3, by omega⟩
    obtain ⟨k, rfl⟩ : ∃ m, k = m + 1 := ⟨k - 1, by omega⟩
    simp only [spec_l01Src_l09Lines.j2]
    rw [e1]
    simp
theorem l1_ok {xs : List Int} (hx : Bytes xs) (sz : Int) (d : Nat) : ∀ (x3 : List OL) (x5 at_ mix : Int), 0 ≤ at_ → (∀ x ∈ x3, Tiny x) → x3.length ≤ 201 → 201 - x3.length = d →
    ∃ r at' mix', (∀ k, d + 1 < k → spec_l01Src_l09Lines.l1 k x3 x5 xs at_ mix sz = some (r, at', mix', sz)) ∧ 0 ≤ at' ∧ (∀ x ∈ r, Tiny x) ∧ r.length ≤ 202 := by
  induction d with
  | zero =>
    intro x3 x5 at_ mix ha h3 hl hd
    obtain ⟨v, a1, m1, e1, h1, v0, v1⟩ := n_ok hx ha mix sz 3 (by omega)
    obtain ⟨r, a2, m2, e2, h2, g2, n2⟩ := j2_ok hx h1 m1 sz h3 (by omega)
    refine ⟨r, a2, m2, fun k hk => ?_, h2, g2, by omega⟩
    obtain ⟨k, rfl⟩ : ∃ m, k = m + 1 := ⟨k - 1, by omega⟩
    simp only [spec_l01Src_l09Lines.l1]
    rw [e1]
    simp only [Option.bind_some]
    rw [wrap_id (x := 199 + v) (by omega) (by omega), if_neg (by omega)]
    exact e2 k (by omega)
  | succ d ih =>
    intro x3 x5 at_ mix ha h3 hl hd
    obtain ⟨v, a1, m1, e1, h1, v0, v1⟩ := n_ok hx ha mix sz 3 (by omega)
    by_cases hlt : (x3.length : Int) < 199 + v
    · obtain ⟨r, a2, m2, e2, h2, g2, n2⟩ := ih (x3 ++ [(⟨(⟨#[65, 67, 77, 69]⟩ : ByteArray), (⟨#[80, 79, 45, 49]⟩ : ByteArray), wrap64 (x5 + 1), (⟨#[78, 85, 84]⟩ : ByteArray), 5, 0, 0, 0⟩ : OL)]) (wrap64 (x5 + 1)) a1 m1 h1 (good_snoc h3 ⟨show (⟨#[65, 67, 77, 69]⟩ : ByteArray).size ≤ 100 by decide, show (⟨#[80, 79, 45, 49]⟩ : ByteArray).size ≤ 100 by decide, show (⟨#[78, 85, 84]⟩ : ByteArray).size ≤ 100 by decide⟩) (by simp; omega) (by simp; omega)
      refine ⟨r, a2, m2, fun k hk => ?_, h2, g2, n2⟩
      obtain ⟨k, rfl⟩ : ∃ m, k = m + 1 := ⟨k - 1, by omega⟩
      simp only [spec_l01Src_l09Lines.l1]
      rw [e1]
      simp only [Option.bind_some]
      rw [wrap_id (x := 199 + v) (by omega) (by omega), if_pos hlt, if_pos (by omega)]
      exact e2 k (by omega)
    · obtain ⟨r, a2, m2, e2, h2, g2, n2⟩ := j2_ok hx h1 m1 sz h3 (by omega)
      refine ⟨r, a2, m2, fun k hk => ?_, h2, g2, by omega⟩
      obtain ⟨k, rfl⟩ : ∃ m, k = m + 1 := ⟨k - 1, by omega⟩
      simp only [spec_l01Src_l09Lines.l1]
      rw [e1]
      simp only [Option.bind_some]
      rw [wrap_id (x := 199 + v) (by omega) (by omega), if_neg hlt]
      exact e2 k (by omega)
theorem l0_ok {xs : List Int} (hx : Bytes xs) (sz : Int) (d : Nat) : ∀ (x3 : List OL) (x4 at_ mix : Int), 0 ≤ at_ → (∀ x ∈ x3, Tiny x) → x3.length + d ≤ 100 → 0 ≤ x4 → x4 = d →
    ∃ r at' mix', (∀ k, d + 600 < k → spec_l01Src_l09Lines.l0 k x3 x4 xs at_ mix sz = some (r, at', mix', sz)) ∧ 0 ≤ at' ∧ (∀ x ∈ r, Tiny x) ∧ r.length ≤ 203 := by
  induction d with
  | zero =>
    intro x3 x4 at_ mix ha h3 hl h4 hd
    obtain ⟨b, a1, m1, e1, h1⟩ := one_ok hx ha mix sz 50 (by omega)
    cases b with
    | true =>
      obtain ⟨r, a2, m2, e2, h2, g2, n2⟩ := l1_ok hx sz 201 [] 0 a1 m1 h1 (by simp) (by simp) (by simp)
      refine ⟨r, a2, m2, fun k hk => ?_, h2, g2, by omega⟩
      obtain ⟨k, rfl⟩ : ∃ m, k = m + 1 := ⟨k - 1, by omega⟩
      simp only [spec_l01Src_l09Lines.l0]
      rw [if_neg (by omega), e1]
      simp only [Option.bind_some]
      rw [if_pos (by first | trivial | rfl)]
      exact e2 k (by omega)
    | false =>
      obtain ⟨r, a2, m2, e2, h2, g2, n2⟩ := j2_ok hx h1 m1 sz h3 (by omega)
      refine ⟨r, a2, m2, fun k hk => ?_, h2, g2, by omega⟩
      obtain ⟨k, rfl⟩ : ∃ m, k = m + 1 := ⟨k - 1, by omega⟩
      simp only [spec_l01Src_l09Lines.l0]
      rw [if_neg (by omega), e1]
      simp only [Option.bind_some]
      rw [if_neg (by simp)]
      exact e2 k (by omega)
  | succ d ih =>
    intro x3 x4 at_ mix ha h3 hl h4 hd
    obtain ⟨l, a1, m1, e1, h1, g1⟩ := line_ok hx ha mix sz
    obtain ⟨q, e2, g2, n2⟩ := add_ok h3 (by omega) g1
    obtain ⟨r, a3, m3, e3, h3', g3, n3⟩ := ih q (x4 - 1) a1 m1 h1 g2 (by omega) (by omega) (by omega)
    refine ⟨r, a3, m3, fun k hk => ?_, h3', g3, n3⟩
    obtain ⟨k, rfl⟩ : ∃ m, k = m + 1 := ⟨k - 1, by omega⟩
    simp only [spec_l01Src_l09Lines.l0]
    rw [if_pos (by omega), e1]
    simp only [Option.bind_some]
    rw [e2 k (by omega)]
    simp only [Option.bind_some]
    rw [wrap_id (x := x4 - 1) (by omega) (by omega)]
    exact e3 k (by omega)
theorem lines_ok {xs : List Int} (hx : Bytes xs) {at_ : Int} (ha : 0 ≤ at_) (mix sz : Int) (h0 : 0 ≤ sz) (h1 : sz ≤ 12) :
    ∃ r at' mix', (∀ k, 700 < k → spec_l01Src_l09Lines.f k xs at_ mix sz = some (r, at', mix', sz)) ∧ 0 ≤ at' ∧ (∀ x ∈ r, Tiny x) ∧ r.length ≤ 203 := by
  obtain ⟨v, a1, m1, e1, h2, v0, v1⟩ := n_ok hx ha mix sz (4 + sz) (by omega)
  obtain ⟨r, a2, m2, e2, h3, g2, n2⟩ := l0_ok hx sz v.toNat [] v a1 m1 h2 (by simp) (by simp; omega) v0 (by omega)
  refine ⟨r, a2, m2, fun k hk => ?_, h3, g2, n2⟩
  unfold spec_l01Src_l09Lines.f
  rw [wrap_id (x := 4 + sz) (by omega) (by omega), e1]
  simp only [Option.bind_some]
  exact e2 k (by omega)
theorem source_ok {l0 : List Int} (h : Bytes l0) : ∃ m sz, spec_l01Source.f l0 = some (l0, 0, m, sz) ∧ 0 ≤ sz ∧ sz ≤ 12 := by
  unfold spec_l01Source.f
  rw [if_pos (show ∀ x ∈ l0, 0 ≤ x ∧ x ≤ 255 from h)]
  exact ⟨_, _, rfl, by omega, by omega⟩
theorem bytes_wf {l0 : List Int} (h : ∀ x ∈ l0, (Lit.int .u8 x).wf = true) : Bytes l0 := by
  intro x hx
  have := h x hx
  simp only [Lit.wf, Bool.and_eq_true, decide_eq_true_eq] at this
  have h1 : IntKind.u8.min = 0 := rfl
  have h2 : IntKind.u8.max = 255 := rfl
  rw [h1, h2] at this
  exact this
theorem pick_ok {xs : List Int} (hx : Bytes xs) {at_ : Int} (ha : 0 ≤ at_) (mix sz : Int) (l : List ByteArray) (h0 : 0 < l.length) (h : l.length ≤ 1000) (n : Nat) (hn : ∀ x ∈ l, x.size ≤ n) :
    ∃ r at' mix', spec_l01Src_pick.f xs at_ mix sz l = some (r, at', mix', sz) ∧ 0 ≤ at' ∧ r.size ≤ n := by
  obtain ⟨v, a1, m1, e1, h2, v0, v1⟩ := n_ok hx ha mix sz l.length (by omega)
  unfold spec_l01Src_pick.f
  rw [e1]
  simp only [Option.bind_some]
  rw [if_pos v0, if_pos (by omega)]
  refine ⟨_, _, _, rfl, h2, ?_⟩
  have : rdOf ByteArray.empty l v = l[v.toNat]'(by omega) := by simp [rdOf, List.getD_eq_getElem?_getD, show v.toNat < l.length by omega]
  rw [this]
  exact hn _ (List.getElem_mem _)
end Go.Proofs.Ytplkgcoeeohbnaa.DFnRate
