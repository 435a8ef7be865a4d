/- Printed by wip/tools/xprint.py: functions of the program as plain Lean functions, and their walks. -/
import Derived.Test.YtplkgcoeeohbnaaRows
import Derived.Test.YtplkgcoeeohbnaaPFnRatex8
import Derived.WalkKit
import Derived.ProofKit
import Derived.OpenShut
import Derived.ShutString
import Derived.ChangeOld
import Derived.Below
import Derived.SizedLaws
import Derived.Test.YtplkgcoeeohbnaaWSized
import Derived.Test.YtplkgcoeeohbnaaPBFnRate
/- FnRate as a plain law: the rate of a drawn book's partner is the floor of 100 times what came over what was ordered. -/
namespace Go.Proofs.Ytplkgcoeeohbnaa.Pure
open Go.RowKit Go.Proofs.Ytplkgcoeeohbnaa.PFnRate Go.Proofs.Ytplkgcoeeohbnaa.DFnRate Go.Proofs.YtplkgcoeeohbnaaW.PrintWords Go.Proofs.YtplkgcoeeohbnaaW.PrintLast
theorem draw_ok {l0 : List Int} (h : Bytes l0) : ∃ ss ls p, (∀ k, 6000 < k → spec_DrawRateOf.f k l0 = some (ss, ls, p)) ∧ (∀ x ∈ ss, TinyS x) ∧ (∀ x ∈ ls, Tiny x) ∧ p.size ≤ 4 := by
  obtain ⟨m, sz, e1, s0, s1⟩ := source_ok h
  obtain ⟨ss, ls, a2, m2, e2, h3, n3, g1, n1, g3⟩ := book_ok' h (at_ := 0) (by omega) m sz s0 s1
  obtain ⟨p, a3, m3, e3, _, hp⟩ := pick_ok h g3 m2 sz [(⟨#[65, 67, 77, 69]⟩ : ByteArray), (⟨#[66, 79, 76, 84]⟩ : ByteArray), (⟨#[67, 45, 49]⟩ : ByteArray), (⟨#[]⟩ : ByteArray)] (by simp) (by simp) 4 (by decide)
  refine ⟨ss, ls, p, fun k hk => ?_, h3, g1, hp⟩
  unfold spec_DrawRateOf.f
  rw [e1]
  simp only [Option.bind_some]
  rw [e2 k (by omega)]
  simp only [Option.bind_some]
  rw [e3]
  simp
theorem rate_bounds {g a : Int} (h0 : 0 ≤ g) (h1 : g ≤ a) (h2 : 0 < a) : 0 ≤ Int.tdiv (100 * g) a ∧ Int.tdiv (100 * g) a ≤ 100 ∧ ((Int.tdiv (100 * g) a = 100) ↔ g = a) ∧ Int.tdiv (100 * g) a * a ≤ 100 * g ∧ 100 * g < (Int.tdiv (100 * g) a + 1) * a := by
  rw [Int.tdiv_eq_ediv_of_nonneg (by omega)]
  have e1 := Int.ediv_mul_le (100 * g) (b := a) (by omega)
  have e2 := Int.lt_ediv_add_one_mul_self (100 * g) h2
  have e0 : 0 ≤ 100 * g / a := Int.ediv_nonneg (by omega) (by omega)
  have e3 : 100 * g / a ≤ 100 := Int.ediv_le_of_le_mul h2 (by omega)
  refine ⟨e0, e3, ⟨fun h => ?_, fun h => ?_⟩, e1, e2⟩
  · rw [h] at e1; omega
  · subst h; exact Int.mul_ediv_cancel _ (by omega)
theorem loop_ok {xs : List OL} {ss : List ST} {p : ByteArray} (hl : xs.length ≤ 300) (hr : ∀ x ∈ xs, T.LineRight (tOL x) = true) (F : Int) (d : Nat) :
    ∀ (i a g : Int), 0 ≤ i → i ≤ xs.length → (xs.length : Int) - i = d → 0 ≤ g → g ≤ a → a ≤ 1000000 * i → T.rateGo p ((xs.map tOL).drop i.toNat) g a = F →
    ∀ k, d < k → laws_FnRate.l0 k p F a g i ss xs = some true := by
  induction d with
  | zero =>
    intro i a g h0 h1 hd hg hga hab hF k hk
    obtain ⟨k, rfl⟩ : ∃ m, k = m + 1 := ⟨k - 1, by omega⟩
    rw [List.drop_of_length_le (by simp; omega)] at hF
    simp only [T.rateGo] at hF
    simp only [laws_FnRate.l0]
    rw [if_neg (by omega)]
    by_cases ha : a = 0
    · rw [if_pos ha] at hF
      rw [if_pos ha, ← hF]
      rfl
    · rw [if_neg ha] at hF
      obtain ⟨b1, b2, b3, b4, b5⟩ := rate_bounds hg hga (by omega)
      rw [hF] at b1 b2 b3 b4 b5
      have hm : (F + 1) * a = F * a + a := by rw [Int.add_mul, Int.one_mul]
      have hFa : 0 ≤ F * a := Int.mul_nonneg b1 (by omega)
      have w1 : wrap64 (F * a) = F * a := wrap_id (by omega) (by omega)
      have w2 : wrap64 (100 * g) = 100 * g := wrap_id (by omega) (by omega)
      have w3 : wrap64 (F + 1) = F + 1 := wrap_id (by omega) (by omega)
      have w4 : wrap64 ((F + 1) * a) = (F + 1) * a := wrap_id (by omega) (by omega)
      have hb : ((F == 100) == (g == a)) = true := by
        by_cases hq : g = a
        · have := b3.2 hq; simp [hq, this]
        · have : ¬ F = 100 := fun h => hq (b3.1 h)
          have e1 : (F == 100) = false := by simpa using this
          have e2 : (g == a) = false := by simpa using hq
          rw [e1, e2]
          rfl
      rw [if_neg ha, if_pos b1, if_pos b2, if_pos hb, w1, w2, if_pos b4, w3, w4, decide_eq_true b5]
  | succ d ih =>
    intro i a g h0 h1 hd hg hga hab hF k hk
    obtain ⟨k, rfl⟩ : ∃ m, k = m + 1 := ⟨k - 1, by omega⟩
    have hlt : i < (xs.length : Int) := by omega
    have hx : rd_T33 xs i ∈ xs := by
      have : rd_T33 xs i = xs[i.toNat]'(by omega) := by simp [rd_T33, List.getD_eq_getElem?_getD, show i.toNat < xs.length by omega]
      rw [this]
      exact List.getElem_mem _
    have hdrop : (xs.map tOL).drop i.toNat = tOL (rd_T33 xs i) :: (xs.map tOL).drop (i + 1).toNat := by
      rw [List.drop_eq_getElem_cons (by simp; omega), show (i + 1).toNat = i.toNat + 1 by omega]
      congr 1
      simp [rd_T33, List.getD_eq_getElem?_getD, show i.toNat < xs.length by omega]
    have hN := T.LineRight.nums (hr _ hx)
    unfold T.LineNums at hN
    rw [hdrop] at hF
    simp only [T.rateGo] at hF
    simp only [laws_FnRate.l0]
    rw [if_pos hlt, if_pos h0, wrap_id (x := i + 1) (by omega) (by omega)]
    generalize rd_T33 xs i = x at *
    simp only [tOL] at hN
    replace hF : (if (x.f0.toList == p.toList) = true then T.rateGo p ((xs.map tOL).drop (i + 1).toNat) (g + x.f6) (a + x.f4) else T.rateGo p ((xs.map tOL).drop (i + 1).toNat) g a) = F := hF
    by_cases hp : x.f0.toList = p.toList
    · rw [if_pos (by simpa using hp)] at hF
      rw [if_pos hp, wrap_id (x := a + x.f4) (by omega) (by omega), wrap_id (x := g + x.f6) (by omega) (by omega)]
      exact ih (i + 1) _ _ (by omega) (by omega) (by omega) (by omega) (by omega) (by omega) hF k (by omega)
    · rw [if_neg (by simpa using hp)] at hF
      rw [if_neg hp]
      exact ih (i + 1) _ _ (by omega) (by omega) (by omega) hg hga (by omega) hF k (by omega)
theorem FnRate : laws_FnRate.Pure := by
  intro l0 _ _ hwf
  by_cases hbig : (l0.length : Int) > 1048576
  · exact ⟨0, by unfold laws_FnRate.f; rw [if_pos hbig]⟩
  obtain ⟨ss, ls, p, e, hs, hg, hp⟩ := draw_ok (bytes_wf hwf)
  obtain ⟨K, hK⟩ : ∃ K : Nat, 7000 ≤ K := ⟨7000, Nat.le_refl _⟩
  refine ⟨K, ?_⟩
  have hR : impl_RateOf.f ss ls p = some (T.RateOf ⟨ss.map tST, ls.map tOL⟩ p) := by
    unfold impl_RateOf.f
    rw [if_pos (by rw [all_stock hs, all_good hg, decide_eq_true (show p.size ≤ 140737488351232 by omega)]; rfl)]
  unfold laws_FnRate.f
  rw [if_neg hbig, e K (by omega)]
  simp only [Option.bind_some]
  rw [hR]
  simp only [Option.bind_some]
  rw [book_right hs hg]
  simp only [Option.bind_some]
  have hT : T.RateOf ⟨ss.map tST, ls.map tOL⟩ p = if T.BookRight ⟨ss.map tST, ls.map tOL⟩ then T.rateGo p (ls.map tOL) 0 0 else -1 := by
    unfold T.RateOf
    rw [if_neg (show ¬ 20000 < p.size by omega)]
  by_cases hb : T.BookRight ⟨ss.map tST, ls.map tOL⟩ = true
  · rw [if_pos hb] at hT
    rw [if_pos hb, hT]
    have hL : T.LinesRight (ls.map tOL) = true := T.BookRight_lines hb
    have hlen := T.LinesRight_len hL
    rw [List.length_map] at hlen
    exact loop_ok (by omega) (fun x hx => by
      obtain ⟨j, hj⟩ := List.getElem?_of_mem hx
      exact T.LinesRight_right hL j (tOL x) (by rw [List.getElem?_map, hj]; rfl)) _ ls.length 0 0 0 (by omega) (by omega) (by omega) (by omega) (by omega) (by omega) (by simp) K (by omega)
  · rw [if_neg hb] at hT
    rw [if_neg hb, hT]
    rfl
end Go.Proofs.Ytplkgcoeeohbnaa.Pure

namespace Go.Proofs.Ytplkgcoeeohbnaa.fnRate
open Go.ChangeShapes Go.WideShapes Go.ChangeAt Go.RowKit
open Go.ChangeMaps (open_string shut_string)
set_option linter.unusedVariables false
theorem own : ownKnob Try.prog.godebug = none := by kernel_rfl
theorem laidOut : laidOutB Try.prog = true := by kernel_rfl
def IsRow (k : IntKind) (w : World) (a : Option Addr) (len cap : Nat) (zs : List Int) : Prop :=
  (a = none ∧ len = 0 ∧ cap = 0 ∧ zs = []) ∨
  ∃ x, a = some x ∧ len ≤ cap ∧ cap ≤ maxLen ∧ zs.length = cap ∧ (∀ i, i < zs.length → w.cell? (x.add i) = some (.int k (zs.getD i 0))) ∧ ∀ n ∈ zs, (Lit.int k n).wf = true
set_option maxRecDepth 100000 in
theorem lifted (os : Os) (started : os.Started) (H : Type) (enc : TypeId × Value → H) :
    ReturnsInHanded {} Try.checked os 11 .any (Rows.fnRateSpec.pre6 enc Try.prog Try.f11 Rows.fnRateRow.domain false) (Rows.fnRateSpec.post enc Try.prog Try.f11 false true false false) := by
  refine returnsInHanded_of_change_sized (C := Try.checked) own started (by kernel_rfl) Try.func11
    (ChangeSpec.witness6 (enc := enc) (C := Try.checked) false ⟨#[], #[.slice none 0 0], []⟩ 8 (by kernel_rfl) (by kernel_rfl) (by kernel_rfl) (by kernel_rfl)) ?_
  intro W base args ds gs before hval0 hW hcnd hsz0 _
  have hsz : (DataW.weightsEach Try.prog (Try.f11.params.toList ++ Rows.fnRateSpec.plain.varTypes Try.prog) (ds ++ gs)).all (· ≤ reachBytes) = true := hsz0
  have hval : ∀ (j : Nat) t v, Try.f11.params[j]? = some t → args[j]? = some v → Value.okWide Try.prog W .any base t v := hval0
  have hW' := hW
  obtain ⟨p, q, hA0, hV, rfl, hfz, hnd⟩ := hW
  have hA : DataW.TrodAll enc Try.prog W 0 (fun _ => true) true Try.f11.params.toList args.toList ds p := hA0
  rw [Try.params11] at hA hval hsz
  obtain ⟨v0, vs0, d0, ds0, p0, q0, hargs, rfl, rfl, h0, r0⟩ := trodAll_cons hA
  obtain ⟨rfl, rfl, rfl⟩ := trodAll_nil r0
  obtain rfl : args = #[v0] := by cases args; simp_all
  obtain ⟨rfl, rfl⟩ := trodVars_none hV
  obtain ⟨a0, len0, cap0, rfl⟩ := okWide_slice Try.underlying37 (hval 0 37 v0 rfl rfl)
  have k0 := h0
  have lt0 : ∀ x ∈ p0, x.block < W.heap.size := by obtain ⟨m, hm⟩ := k0; exact DataW.trod_lt m _ _ _ hm
  obtain ⟨z0, w0⟩ : ∃ zs, IsRow .u8 W a0 len0 cap0 zs := by
    obtain ⟨fuel, hf⟩ := h0
    rcases open_ints Try.underlying37 Try.underlying5 (by kernel_rfl) hf with ⟨hcs, _⟩ | ⟨x, l, c, zs, hcs, _, hl, hm, hz, _, hcell, hwz⟩
    · simp [Value.cells] at hcs
      obtain ⟨rfl, rfl, rfl⟩ := hcs
      exact ⟨[], .inl ⟨rfl, rfl, rfl, rfl⟩⟩
    · simp [Value.cells] at hcs
      obtain ⟨rfl, rfl, rfl⟩ := hcs
      exact ⟨zs, .inr ⟨_, rfl, hl, hm, by simpa using hz, hcell, hwz⟩⟩
  have y0 : len0 * 1 ≤ 140737488351232 := Go.Proofs.YtplkgcoeeohbnaaW.PrintWords.sized_ints hsz (j := 0) (t := 37) rfl rfl Try.underlying37 Try.underlying5 (by kernel_rfl) (by kernel_rfl) h0
  clear hA0 hval0 hsz0 hsz
  refine (PFnRate.laws_FnRate.walk Pure.FnRate a0 len0 cap0 z0 W w0 y0).mono fun e W' ⟨he, bel⟩ => ?_
  subst he
  exact ⟨_, rfl, _, _, _, [], _, [], hW', trodAll_mk1 (shut_bool Try.underlying4 _), (trodAll_cons_mk (Below.trod laidOut (by kernel_rfl) (of_decide_eq_true (by kernel_rfl)) k0 bel lt0) trodAll_mk0), rfl, bel.frame _, fun h => by cases h⟩
theorem over : Rows.fnRateRow.holds Try.pinned (OpenSpec.ofChange Rows.fnRateSpec) :=
  OpenClaim.holds_of_wide 11 Try.f11 rfl rfl rfl rfl rfl rfl rfl ⟨rfl, rfl, rfl, rfl, rfl⟩ rfl rfl rfl rfl rfl (by kernel_rfl) Try.func11 (by kernel_rfl)
    (of_decide_eq_true (by kernel_rfl)) (by unfold Func.isWrapper; first | (rw [if_pos (by decide +kernel)]; kernel_rfl) | (rw [if_neg (by decide +kernel)]; exact ⟨rfl, rfl⟩))
    (fun os started H enc _ => lifted os started H enc)
theorem proved : Rows.FnRateSaid := over
#print axioms proved
end Go.Proofs.Ytplkgcoeeohbnaa.fnRate
namespace Go.Proofs.Ytplkgcoeeohbnaa
/-- The row, under a short name, for the claim. -/
theorem fnRate_holds : Rows.FnRateSaid := fnRate.proved
end Go.Proofs.Ytplkgcoeeohbnaa
