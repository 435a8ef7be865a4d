/- What the law's own helpers come to: sizes, copies, comparisons, marks. -/
import Derived.Test.YtplkgcoeeohbnaaPFnExactCloseLinesx6
import Derived.Test.YtplkgcoeeohbnaaXB
namespace Go.Proofs.Ytplkgcoeeohbnaa.DFnExactCloseLines
open Go.RowKit Go.Proofs.Ytplkgcoeeohbnaa.PFnExactCloseLines Go.Proofs.YtplkgcoeeohbnaaW.PrintWords Go.Proofs.YtplkgcoeeohbnaaW.PrintLast
abbrev LOL := S30
abbrev IOL := S33
def conv (x : LOL) : IOL := ⟨x.f0, x.f1, x.f2, x.f3, x.f4, x.f5, x.f6, x.f7⟩
def SmallO (x : LOL) : Prop := x.f0.size ≤ 9223372036854775807 ∧ x.f1.size ≤ 9223372036854775807 ∧ x.f3.size ≤ 9223372036854775807
def OneO (x : LOL) : Prop := x.f0.size ≤ 1048576 ∧ x.f1.size ≤ 1048576 ∧ x.f3.size ≤ 1048576
theorem wrap_id {x : Int} (h0 : -9223372036854775808 ≤ x) (h1 : x ≤ 9223372036854775807) : wrap64 x = x := by unfold wrap64; omega
theorem rdL {xs : List LOL} {i : Int} (h0 : 0 ≤ i) (h1 : i < xs.length) : xs[i.toNat]? = some (rd_T30 xs i) := by
  simp [rd_T30, List.getD_eq_getElem?_getD, show i.toNat < xs.length by omega]
theorem rdE {xs : List IOL} {i : Int} (h0 : 0 ≤ i) (h1 : i < xs.length) : xs[i.toNat]? = some (rd_T33 xs i) := by
  simp [rd_T33, List.getD_eq_getElem?_getD, show i.toNat < xs.length by omega]
theorem rdN {xs : List Int} {i : Int} (h0 : 0 ≤ i) (h1 : i < xs.length) : xs[i.toNat]? = some (rd xs i) := by
  simp [rd, List.getD_eq_getElem?_getD, show i.toNat < xs.length by omega]
theorem szO_ok (x : LOL) (hs : SmallO x) (a : Int) (h0 : 0 ≤ a) (h1 : a ≤ 1048576) : ∃ r, laws_szOrderLine.f x.f0 x.f1 x.f2 x.f3 x.f4 x.f5 x.f6 x.f7 a = some r ∧ r ≤ a ∧ (0 ≤ r → OneO x) := by
  obtain ⟨s1, s2, s3⟩ := hs
  unfold laws_szOrderLine.f OneO
  rw [wrap_id (x := a - x.f0.size) (by omega) (by omega)]
  by_cases c1 : a - (x.f0.size : Int) < 0
  · rw [if_pos c1]; exact ⟨-1, rfl, by omega, fun h => by omega⟩
  · rw [if_neg c1, wrap_id (x := a - x.f0.size - x.f1.size) (by omega) (by omega)]
    by_cases c2 : a - (x.f0.size : Int) - x.f1.size < 0
    · rw [if_pos c2]; exact ⟨-1, rfl, by omega, fun h => by omega⟩
    · rw [if_neg c2, wrap_id (x := a - x.f0.size - x.f1.size - x.f3.size) (by omega) (by omega)]
      by_cases c3 : a - (x.f0.size : Int) - x.f1.size - x.f3.size < 0
      · rw [if_pos c3]; exact ⟨-1, rfl, by omega, fun h => by omega⟩
      · rw [if_neg c3]; exact ⟨_, rfl, by omega, fun h => by omega⟩
theorem szS_loop {xs : List LOL} (hs : ∀ x ∈ xs, SmallO x) (hl : xs.length ≤ 1048576) (d : Nat) : ∀ (i a : Int), 0 ≤ i → i ≤ xs.length → (xs.length : Int) - i = d → 0 ≤ a → a ≤ 1048576 →
    ∃ r, (∀ k, d < k → laws_szOrderLineS.l0 k xs a i = some r) ∧ r ≤ 1048576 ∧ (0 ≤ r → ∀ j x, i ≤ (j : Nat) → xs[j]? = some x → OneO x) := by
  induction d with
  | zero =>
    intro i a h0 h1 hd ha0 ha1
    refine ⟨a, fun k hk => ?_, ha1, fun _ j x hj hx => ?_⟩
    · obtain ⟨k, rfl⟩ : ∃ m, k = m + 1 := ⟨k - 1, by omega⟩
      simp only [laws_szOrderLineS.l0]
      rw [if_neg (by omega)]
    · have := (List.getElem?_eq_some_iff.1 hx).1; omega
  | succ d ih =>
    intro i a h0 h1 hd ha0 ha1
    have hlt : i < (xs.length : Int) := by omega
    have hx := rdL h0 hlt
    obtain ⟨r1, e1, b1, g1⟩ := szO_ok (rd_T30 xs i) (hs _ (List.mem_of_getElem? hx)) a ha0 ha1
    by_cases hn : r1 < 0
    · refine ⟨-1, fun k hk => ?_, by omega, fun h => by omega⟩
      obtain ⟨k, rfl⟩ : ∃ m, k = m + 1 := ⟨k - 1, by omega⟩
      simp only [laws_szOrderLineS.l0]
      rw [if_pos hlt, if_pos h0, e1]
      simp only [Option.bind_some]
      rw [if_pos hn]
    · obtain ⟨r, e, b, g⟩ := ih (i + 1) r1 (by omega) (by omega) (by omega) (by omega) (by omega)
      refine ⟨r, fun k hk => ?_, b, fun h j x hj hxj => ?_⟩
      · obtain ⟨k, rfl⟩ : ∃ m, k = m + 1 := ⟨k - 1, by omega⟩
        simp only [laws_szOrderLineS.l0]
        rw [if_pos hlt, if_pos h0, e1]
        simp only [Option.bind_some]
        rw [if_neg hn, wrap_id (x := i + 1) (by omega) (by omega)]
        exact e k (by omega)
      · by_cases hji : (j : Int) = i
        · have : j = i.toNat := by omega
          subst this
          rw [hx] at hxj
          obtain rfl := Option.some.inj hxj
          exact g1 (by omega)
        · exact g h j x (by omega) hxj
theorem szS_ok {xs : List LOL} (hs : ∀ x ∈ xs, SmallO x) (hl : xs.length ≤ 9223372036854775807) : ∃ r, (∀ k, 1048577 < k → laws_szOrderLineS.f k xs 1048576 = some r) ∧ r ≤ 1048576 ∧ (0 ≤ r → xs.length ≤ 1048576 ∧ ∀ x ∈ xs, OneO x) := by
  unfold laws_szOrderLineS.f
  rw [wrap_id (x := 1048576 - (xs.length : Int)) (by omega) (by omega)]
  by_cases hn : (1048576 : Int) - xs.length < 0
  · refine ⟨-1, fun k _ => by rw [if_pos hn], by omega, fun h => by omega⟩
  · obtain ⟨r, e, b, g⟩ := szS_loop hs (by omega) xs.length 0 (1048576 - (xs.length : Int)) (by omega) (by omega) (by omega) (by omega) (by omega)
    refine ⟨r, fun k hk => ?_, b, fun h => ⟨by omega, fun x hx => ?_⟩⟩
    · rw [if_neg hn]; exact e k (by omega)
    · obtain ⟨j, hj⟩ := List.getElem?_of_mem hx
      exact g h j x (by omega) hj
theorem toS_loop {xs : List LOL} (hl : xs.length ≤ 1048576) (d : Nat) : ∀ (i : Int) (ys : List IOL), 0 ≤ i → i ≤ xs.length → (xs.length : Int) - i = d → ys.length = xs.length → (∀ j, j < i.toNat → ys[j]? = (xs[j]?).map conv) →
    ∀ k, d < k → laws_toOrderLineS.l0 k xs ys i = some (xs.map conv) := by
  induction d with
  | zero =>
    intro i ys h0 h1 hd hy hj k hk
    obtain ⟨k, rfl⟩ : ∃ m, k = m + 1 := ⟨k - 1, by omega⟩
    simp only [laws_toOrderLineS.l0]
    rw [if_neg (by omega)]
    congr 1
    apply List.ext_getElem?
    intro j
    rw [List.getElem?_map]
    rcases Nat.lt_or_ge j i.toNat with h | h
    · exact hj j h
    · rw [List.getElem?_eq_none (by omega), List.getElem?_eq_none (by omega)]; rfl
  | succ d ih =>
    intro i ys h0 h1 hd hy hj k hk
    obtain ⟨k, rfl⟩ : ∃ m, k = m + 1 := ⟨k - 1, by omega⟩
    have hlt : i < (xs.length : Int) := by omega
    have hx := rdL h0 hlt
    simp only [laws_toOrderLineS.l0, laws_toOrderLine.f, Option.bind_some]
    rw [if_pos hlt, if_pos h0, if_pos (by omega), wrap_id (x := i + 1) (by omega) (by omega)]
    refine ih (i + 1) _ (by omega) (by omega) (by omega) (by simpa using hy) (fun j hji => ?_) k (by omega)
    rw [List.getElem?_set]
    by_cases h : i.toNat = j
    · subst h
      rw [if_pos (by first | trivial | rfl), if_pos (by omega), hx]
      rfl
    · rw [if_neg h]
      exact hj j (by omega)
theorem toS_ok {xs : List LOL} (hl : xs.length ≤ 1048576) {k : Nat} (hk : 1048577 < k) : laws_toOrderLineS.f k xs = some (xs.map conv) := by
  unfold laws_toOrderLineS.f
  rw [if_pos (by omega), if_pos (by simp; omega)]
  exact toS_loop hl xs.length 0 _ (by omega) (by omega) (by omega) (by simp) (fun j hj => by omega) k (by omega)
theorem eqS_loop {xs : List IOL} (hl : xs.length ≤ 1048576) (d : Nat) : ∀ (i : Int), 0 ≤ i → i ≤ xs.length → (xs.length : Int) - i = d → ∀ k, d < k → laws_eqOrderLineS.l0 k xs xs i = some true := by
  induction d with
  | zero =>
    intro i h0 h1 hd k hk
    obtain ⟨k, rfl⟩ : ∃ m, k = m + 1 := ⟨k - 1, by omega⟩
    simp only [laws_eqOrderLineS.l0]
    rw [if_neg (by omega)]
  | succ d ih =>
    intro i h0 h1 hd k hk
    obtain ⟨k, rfl⟩ : ∃ m, k = m + 1 := ⟨k - 1, by omega⟩
    have hlt : i < (xs.length : Int) := by omega
    have he : ∀ x : IOL, laws_eqOrderLine.f x.f0 x.f1 x.f2 x.f3 x.f4 x.f5 x.f6 x.f7 x.f0 x.f1 x.f2 x.f3 x.f4 x.f5 x.f6 x.f7 = some true := by intro x; simp [laws_eqOrderLine.f]
    simp only [laws_eqOrderLineS.l0]
    rw [if_pos hlt, if_pos h0, if_pos hlt, he]
    simp only [Option.bind_some]
    rw [if_pos (by first | trivial | rfl), wrap_id (x := i + 1) (by omega) (by omega)]
    exact ih (i + 1) (by omega) (by omega) (by omega) k (by omega)
theorem eqS_ok {xs : List IOL} (hl : xs.length ≤ 1048576) {k : Nat} (hk : 1048577 < k) : laws_eqOrderLineS.f k xs xs = some true := by
  unfold laws_eqOrderLineS.f
  rw [if_pos (by first | trivial | rfl)]
  exact eqS_loop hl xs.length 0 (by omega) (by omega) (by omega) k (by omega)
theorem one_size (y : Int) : (strOfNums [y]).size = 1 := rfl
theorem markText_loop (d : Nat) : ∀ (n : Nat) (acc : ByteArray), n ≤ 1000000000000000 → n < 10 ^ d → acc.size + d ≤ 1000 → ∃ t, ∀ k, d < k → laws_markText.l0 k n acc = some t := by
  induction d with
  | zero =>
    intro n acc hn15 hn ha
    refine ⟨(⟨#[109]⟩ : ByteArray) ++ acc, fun k hk => ?_⟩
    obtain ⟨k, rfl⟩ : ∃ m, k = m + 1 := ⟨k - 1, by omega⟩
    simp only [laws_markText.l0]
    rw [if_neg (by omega), if_pos (by omega)]
  | succ d ih =>
    intro n acc hn15 hn ha
    by_cases hz : n = 0
    · refine ⟨(⟨#[109]⟩ : ByteArray) ++ acc, fun k hk => ?_⟩
      obtain ⟨k, rfl⟩ : ∃ m, k = m + 1 := ⟨k - 1, by omega⟩
      simp only [laws_markText.l0]
      rw [if_neg (by omega), if_pos (by omega)]
    · obtain ⟨t, ht⟩ := ih (n / 10) ((strOfNums [(wrap64 (48 + (Int.tmod n 10))) % 256]) ++ acc) (by omega) (by rw [Nat.pow_succ] at hn; omega) (by rw [ByteArray.size_append, one_size]; omega)
      refine ⟨t, fun k hk => ?_⟩
      obtain ⟨k, rfl⟩ : ∃ m, k = m + 1 := ⟨k - 1, by omega⟩
      simp only [laws_markText.l0]
      rw [if_pos (by omega)]
      simp only [Option.bind_some]
      rw [if_pos (by rw [one_size]; omega)]
      have e : wrap64 (Int.tdiv n 10) = ((n / 10 : Nat) : Int) := by
        rw [show Int.tdiv (n : Int) 10 = ((n / 10 : Nat) : Int) from rfl]
        exact wrap_id (by omega) (by omega)
      rw [e]
      exact ht k (by omega)
theorem markText_ok {a : Int} (h0 : 0 < a) (h1 : a ≤ 1000000000000000) : ∃ t, ∀ k, 16 < k → laws_markText.f k a = some t := by
  obtain ⟨n, rfl⟩ : ∃ n : Nat, a = n := ⟨a.toNat, by omega⟩
  obtain ⟨t, ht⟩ := markText_loop 16 n ⟨#[]⟩ (by omega) (by omega) (by decide)
  refine ⟨t, fun k hk => ?_⟩
  unfold laws_markText.f
  rw [if_neg (by omega)]
  exact ht k hk
theorem rd_set {xs : List IOL} {i : Int} (h0 : 0 ≤ i) (h1 : i < xs.length) (v : IOL) : rd_T33 (xs.set i.toNat v) i = v := by
  have h := rdE (xs := xs.set i.toNat v) h0 (by simpa using h1)
  rw [List.getElem?_set, if_pos rfl, if_pos (by omega)] at h
  exact (Option.some.inj h).symm
noncomputable def mt (a : Int) : ByteArray := (laws_markText.f 17 a).getD ⟨#[]⟩
theorem mt_ok {a : Int} (h0 : 0 < a) (h1 : a ≤ 1000000000000000) {k : Nat} (hk : 16 < k) : laws_markText.f k a = some (mt a) := by
  obtain ⟨t, ht⟩ := markText_ok h0 h1
  unfold mt
  rw [ht 17 (by omega), ht k hk]
  rfl
noncomputable def mk (m : Int) : IOL := ⟨mt m, mt (m + 1), m + 1 + 1, mt (m + 1 + 1 + 1), m + 1 + 1 + 1 + 1, m + 1 + 1 + 1 + 1 + 1, m + 1 + 1 + 1 + 1 + 1 + 1, m + 1 + 1 + 1 + 1 + 1 + 1 + 1⟩
theorem markO_loop (d : Nat) : ∀ (i x1 : Int) (x0 : List IOL), 0 ≤ i → i ≤ x0.length → (x0.length : Int) - i = d → 1 ≤ x1 → x1 + 8 * d ≤ 100000000000000 → i + d ≤ 100000000 →
    ∃ r, (∀ k, d + 20 < k → laws_markOrderLineS.l0 k x0 x1 i = some (x1 + 8 * d, r)) ∧ r.length = x0.length ∧ (∀ j, j < i.toNat → r[j]? = x0[j]?) ∧ ∀ j, i.toNat ≤ j → j < x0.length → r[j]? = some (mk (x1 + 8 * (j - i))) := by
  induction d with
  | zero =>
    intro i x1 x0 h0 h1 hd hx hb hi
    refine ⟨x0, fun k hk => ?_, rfl, fun _ _ => rfl, fun j hj hl => by omega⟩
    obtain ⟨k, rfl⟩ : ∃ m, k = m + 1 := ⟨k - 1, by omega⟩
    simp only [laws_markOrderLineS.l0]
    rw [if_neg (by omega)]
    simp
  | succ d ih =>
    intro i x1 x0 h0 h1 hd hx hb hi
    have hlt : i < (x0.length : Int) := by omega
    obtain ⟨r, e, hl, hlo, hhi⟩ := ih (i + 1) (x1 + 1 + 1 + 1 + 1 + 1 + 1 + 1 + 1) (x0.set i.toNat (mk x1)) (by omega) (by simp; omega) (by simp; omega) (by omega) (by omega) (by omega)
    refine ⟨r, fun k hk => ?_, by simpa using hl, fun j hj => ?_, fun j hj hjl => ?_⟩
    · obtain ⟨k, rfl⟩ : ∃ m, k = m + 1 := ⟨k - 1, by omega⟩
      have w1 : wrap64 (x1 + 1) = x1 + 1 := wrap_id (by omega) (by omega)
      have w2 : wrap64 (x1 + 1 + 1) = x1 + 1 + 1 := wrap_id (by omega) (by omega)
      have w3 : wrap64 (x1 + 1 + 1 + 1) = x1 + 1 + 1 + 1 := wrap_id (by omega) (by omega)
      have w4 : wrap64 (x1 + 1 + 1 + 1 + 1) = x1 + 1 + 1 + 1 + 1 := wrap_id (by omega) (by omega)
      have w5 : wrap64 (x1 + 1 + 1 + 1 + 1 + 1) = x1 + 1 + 1 + 1 + 1 + 1 := wrap_id (by omega) (by omega)
      have w6 : wrap64 (x1 + 1 + 1 + 1 + 1 + 1 + 1) = x1 + 1 + 1 + 1 + 1 + 1 + 1 := wrap_id (by omega) (by omega)
      have w7 : wrap64 (x1 + 1 + 1 + 1 + 1 + 1 + 1 + 1) = x1 + 1 + 1 + 1 + 1 + 1 + 1 + 1 := wrap_id (by omega) (by omega)
      have w8 : wrap64 (x1 + 1 + 1 + 1 + 1 + 1 + 1 + 1 + 1) = x1 + 1 + 1 + 1 + 1 + 1 + 1 + 1 + 1 := wrap_id (by omega) (by omega)
      have wi : wrap64 (i + 1) = i + 1 := wrap_id (by omega) (by omega)
      have e1 := mt_ok (a := x1) (by omega) (by omega) (k := k) (by omega)
      have e2 := mt_ok (a := x1 + 1) (by omega) (by omega) (k := k) (by omega)
      have e4 := mt_ok (a := x1 + 1 + 1 + 1) (by omega) (by omega) (k := k) (by omega)
      simp only [laws_markOrderLineS.l0, hlt, h0, if_true, e1, e2, e4, Option.bind_some, w1, w2, w3, w4, w5, w6, w7, w8, wi, List.set_set, rd_set h0 hlt]
      have hm := e k (by omega)
      unfold mk at hm
      rw [hm]
      congr 2
      omega
    · rw [hlo j (by omega), List.getElem?_set, if_neg (by omega)]
    · by_cases hji : j = i.toNat
      · subst hji
        rw [hlo i.toNat (by omega), List.getElem?_set, if_pos (by first | trivial | rfl), if_pos (by omega)]
        congr 2
        omega
      · rw [hhi j (by omega) (by simpa using hjl)]
        congr 2
        omega
theorem heldO_loop (d : Nat) : ∀ (i x1 : Int) (x0 : List IOL), 0 ≤ i → i ≤ x0.length → (x0.length : Int) - i = d → 1 ≤ x1 → x1 + 8 * d ≤ 100000000000000 → i + d ≤ 100000000 → (∀ j, i.toNat ≤ j → j < x0.length → x0[j]? = some (mk (x1 + 8 * (j - i)))) →
    ∀ k, d + 20 < k → laws_heldOrderLineS.l0 k x0 x1 i = some (x1 + 8 * d) := by
  induction d with
  | zero =>
    intro i x1 x0 h0 h1 hd hx hb hi hr k hk
    obtain ⟨k, rfl⟩ : ∃ m, k = m + 1 := ⟨k - 1, by omega⟩
    simp only [laws_heldOrderLineS.l0]
    rw [if_neg (by omega)]
    simp
  | succ d ih =>
    intro i x1 x0 h0 h1 hd hx hb hi hr k hk
    have hlt : i < (x0.length : Int) := by omega
    obtain ⟨k, rfl⟩ : ∃ m, k = m + 1 := ⟨k - 1, by omega⟩
    have hv : rd_T33 x0 i = mk x1 := by
      have h2 := hr i.toNat (by omega) (by omega)
      rw [rdE h0 hlt] at h2
      have := Option.some.inj h2
      rw [this]
      congr 1
      omega
    have w1 : wrap64 (x1 + 1) = x1 + 1 := wrap_id (by omega) (by omega)
    have w2 : wrap64 (x1 + 1 + 1) = x1 + 1 + 1 := wrap_id (by omega) (by omega)
    have w3 : wrap64 (x1 + 1 + 1 + 1) = x1 + 1 + 1 + 1 := wrap_id (by omega) (by omega)
    have w4 : wrap64 (x1 + 1 + 1 + 1 + 1) = x1 + 1 + 1 + 1 + 1 := wrap_id (by omega) (by omega)
    have w5 : wrap64 (x1 + 1 + 1 + 1 + 1 + 1) = x1 + 1 + 1 + 1 + 1 + 1 := wrap_id (by omega) (by omega)
    have w6 : wrap64 (x1 + 1 + 1 + 1 + 1 + 1 + 1) = x1 + 1 + 1 + 1 + 1 + 1 + 1 := wrap_id (by omega) (by omega)
    have w7 : wrap64 (x1 + 1 + 1 + 1 + 1 + 1 + 1 + 1) = x1 + 1 + 1 + 1 + 1 + 1 + 1 + 1 := wrap_id (by omega) (by omega)
    have w8 : wrap64 (x1 + 1 + 1 + 1 + 1 + 1 + 1 + 1 + 1) = x1 + 1 + 1 + 1 + 1 + 1 + 1 + 1 + 1 := wrap_id (by omega) (by omega)
    have wi : wrap64 (i + 1) = i + 1 := wrap_id (by omega) (by omega)
    simp only [laws_heldOrderLineS.l0, w1, w2, w3, w4, w5, w6, w7, w8, wi]
    rw [if_pos hlt, if_pos h0, mt_ok (a := x1) (by omega) (by omega) (by omega), mt_ok (a := x1 + 1) (by omega) (by omega) (by omega), mt_ok (a := x1 + 1 + 1 + 1) (by omega) (by omega) (by omega), hv]
    simp only [mk, Option.bind_some, if_true]
    rw [ih (i + 1) (x1 + 1 + 1 + 1 + 1 + 1 + 1 + 1 + 1) x0 (by omega) (by omega) (by omega) (by omega) (by omega) (by omega) (fun j hj hl => by rw [hr j (by omega) hl]; congr 2; omega) k (by omega)]
    congr 1
    omega
/-- marks laid from 1 on are held -/
theorem marksO_ok (x0 : List IOL) (hl : x0.length ≤ 1048577) : ∃ r, (∀ k, 1048700 < k → laws_markOrderLineS.f k x0 1 = some (1 + 8 * (x0.length : Int), r)) ∧ ∀ k, 1048700 < k → laws_heldOrderLineS.f k r 1 = some (1 + 8 * (x0.length : Int)) := by
  obtain ⟨r, e, hrl, _, hr⟩ := markO_loop x0.length 0 1 x0 (by omega) (by omega) (by omega) (by omega) (by omega) (by omega)
  refine ⟨r, fun k hk => e k (by omega), fun k hk => ?_⟩
  have := heldO_loop x0.length 0 1 r (by omega) (by omega) (by omega) (by omega) (by omega) (by omega) (fun j hj hjl => hr j hj (by omega)) k (by omega)
  exact this
end Go.Proofs.Ytplkgcoeeohbnaa.DFnExactCloseLines
