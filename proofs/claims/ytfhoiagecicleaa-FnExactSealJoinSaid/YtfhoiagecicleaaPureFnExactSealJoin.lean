/- FnExactSealJoin: the program's chain of events and one behind them is the reference's, for all arguments. -/
import Derived.Test.YtfhoiagecicleaaPEFnExactSealJoin
import Derived.Test.YtfhoiagecicleaaTEvent
namespace Go.Proofs.Ytfhoiagecicleaa.Pure
open Go.RowKit Go.Proofs.Ytfhoiagecicleaa.PFnExactSealJoin Go.Proofs.Ytfhoiagecicleaa.DFnExactSealJoin Go.Proofs.YtfhoiagecicleaaW.PrintWords Go.Proofs.YtfhoiagecicleaaW.PrintLast
theorem equal_loop {xs ys : List Int} (hl : xs.length ≤ 1048576) (he : xs.length = ys.length) (d : Nat) : ∀ (i : Int), 0 ≤ i → i ≤ xs.length → (xs.length : Int) - i = d → (∀ j, j < i.toNat → xs[j]? = ys[j]?) →
    ∀ k, d < k → slices_Equal_int64_int64.l0 k xs ys (xs.length : Int) i = some (decide (xs = ys)) := by
  induction d with
  | zero =>
    intro i h0 h1 hd hj k hk
    obtain ⟨k, rfl⟩ : ∃ m, k = m + 1 := ⟨k - 1, by omega⟩
    simp only [slices_Equal_int64_int64.l0]
    rw [if_neg (by omega)]
    have : xs = ys := List.ext_getElem? fun j => by
      rcases Nat.lt_or_ge j i.toNat with h | h
      · exact hj j h
      · rw [List.getElem?_eq_none (by omega), List.getElem?_eq_none (by omega)]
    rw [decide_eq_true this]
  | succ d ih =>
    intro i h0 h1 hd hj k hk
    obtain ⟨k, rfl⟩ : ∃ m, k = m + 1 := ⟨k - 1, by omega⟩
    have hlt : i < (xs.length : Int) := by omega
    have hlt' : i < (ys.length : Int) := by omega
    have hx := rdN h0 hlt
    have hy := rdN h0 hlt'
    simp only [slices_Equal_int64_int64.l0]
    rw [if_pos hlt, if_pos h0, if_pos hlt, if_pos hlt']
    by_cases hv : rd xs i = rd ys i
    · rw [if_pos hv, wrap_id (x := i + 1) (by omega) (by omega)]
      refine ih (i + 1) (by omega) (by omega) (by omega) (fun j hji => ?_) k (by omega)
      by_cases h : j = i.toNat
      · rw [h, hx, hy, hv]
      · exact hj j (by omega)
    · rw [if_neg hv]
      have : ¬ xs = ys := fun e => hv (by rw [e])
      rw [decide_eq_false this]
theorem equal_ok {xs ys : List Int} (hl : xs.length ≤ 1048576) {k : Nat} (hk : 1048577 < k) : slices_Equal_int64_int64.f k xs ys = some (decide (xs = ys)) := by
  unfold slices_Equal_int64_int64.f
  by_cases he : xs.length = ys.length
  · rw [if_pos (by omega)]
    exact equal_loop hl he xs.length 0 (by omega) (by omega) (by omega) (fun j hj => by omega) k (by omega)
  · rw [if_neg (by omega)]
    have : ¬ xs = ys := fun e => he (by rw [e])
    rw [decide_eq_false this]
def OkE (e : IEV) : Prop := okEV e = true
/-- what both come to -/
noncomputable def join (l : List IEV) (ch : List Int) (e : IEV) : List Int :=
  if 400 < l.length ∨ 400 < ch.length then [] else if T.areE (l.map tEV) = false ∨ T.chain (l.map tEV) 1 ≠ ch ∨ T.EventRight (tEV e) = false ∨ 60 ≤ l.length then ch
  else T.chain (l.map tEV ++ [tEV e]) 1
theorem join_len (l : List IEV) (ch : List Int) (e : IEV) (h : ch.length ≤ 1048576) : (join l ch e).length ≤ 1048577 := by
  unfold join
  split
  · simp
  · split
    · omega
    · rw [T.chain_len]; simp; omega
theorem areE_len {l : List T.Event} (h : T.areE l = true) : l.length ≤ 60 := by simp [T.areE] at h; exact h.1
theorem impl_ok {l : List IEV} (hl : l.all okEV = true) {ch : List Int} (hc : ch.length ≤ 1048576) {e : IEV} (he : OkE e) {k : Nat} (hk : 1048600 < k) : impl_SealJoin.f k l ch e.f0 e.f1 e.f2 e.f3 = some (join l ch e) := by
  obtain ⟨k, rfl⟩ : ∃ m, k = m + 2 := ⟨k - 2, by omega⟩
  have hE : impl_EventRight.f e.f0 e.f1 e.f2 e.f3 = some (T.EventRight (tEV e)) := by
    unfold impl_EventRight.f
    rw [if_pos (show okEV ⟨e.f0, e.f1, e.f2, e.f3⟩ = true from he)]
  have hA : impl_areEvents.f l = some (T.areE (l.map tEV)) := by unfold impl_areEvents.f; rw [if_pos hl]
  have hcl : slices_Clone_int64_int64.f ch = some ch := by unfold slices_Clone_int64_int64.f; rw [if_pos hc]
  have j1t : impl_SealJoin.j1 (k + 1) l ch true e.f0 e.f1 e.f2 e.f3 = some ch := by
    simp only [impl_SealJoin.j1]
    rw [if_pos (by first | trivial | rfl), hcl]
    simp
  have j0t : impl_SealJoin.j0 (k + 2) l ch true e.f0 e.f1 e.f2 e.f3 = some [] := by
    simp only [impl_SealJoin.j0]
    rw [if_pos (by first | trivial | rfl)]
  unfold impl_SealJoin.f impl_Event_54.f impl_longList_int64.f join
  simp only [Option.bind_some]
  by_cases h1 : 400 < l.length
  · rw [if_pos (by simp; omega), if_pos (.inl h1), j0t]
  · rw [if_neg (by simp; omega)]
    by_cases h2 : 400 < ch.length
    · rw [decide_eq_true (by omega), if_pos (.inr h2), j0t]
    · rw [decide_eq_false (by omega), if_neg (by omega)]
      simp only [impl_SealJoin.j0]
      rw [if_neg (by simp), hA]
      simp only [Option.bind_some]
      cases hr : T.areE (l.map tEV) with
      | false => rw [if_neg (by simp), if_pos (.inl (by first | trivial | rfl)), j1t]
      | true =>
        have h60 : l.length ≤ 60 := by simpa using areE_len hr
        have hch : impl_chainOf.f l = some (T.chain (l.map tEV) 1) := by
          unfold impl_chainOf.f
          rw [if_pos (by rw [hl, decide_eq_true h60]; rfl)]
        rw [if_pos (by first | trivial | rfl), hch]
        simp only [Option.bind_some]
        rw [equal_ok hc (by omega)]
        simp only [Option.bind_some]
        by_cases hq : ch = T.chain (l.map tEV) 1
        · rw [if_pos (by simpa using hq), hE]
          simp only [Option.bind_some]
          cases hev : T.EventRight (tEV e) with
          | false => rw [if_neg (by simp), if_pos (.inr (.inr (.inl (by first | trivial | rfl)))), j1t]
          | true =>
            rw [if_pos (by first | trivial | rfl)]
            by_cases hs : l.length = 60
            · have : ((l.length : Int) == 60) = true := by simp; omega
              rw [this, j1t, if_pos (.inr (.inr (.inr (by omega))))]
            · have : ((l.length : Int) == 60) = false := by simp; omega
              rw [this, if_neg (by simp; exact ⟨hq.symm, by omega⟩)]
              simp only [impl_SealJoin.j1]
              have hce : impl_Event_57.f l = some l := by unfold impl_Event_57.f; rw [if_pos (by omega)]
              rw [if_neg (by simp), hce]
              simp only [Option.bind_some]
              rw [if_pos (by simp; omega)]
              have hch' : impl_chainOf.f (l ++ [(⟨e.f0, e.f1, e.f2, e.f3⟩ : IEV)]) = some (T.chain (l.map tEV ++ [tEV e]) 1) := by
                unfold impl_chainOf.f
                have h3 : (l ++ [(⟨e.f0, e.f1, e.f2, e.f3⟩ : IEV)]).all okEV = true := by
                  rw [List.all_append, hl]
                  simpa using (show okEV e = true from he)
                rw [if_pos (by rw [h3, decide_eq_true (by simp; omega)]; rfl), List.map_append]
                rfl
              rw [hch']
              simp
        · rw [if_neg (by simpa using hq), j1t, if_pos (.inr (.inl fun h => hq h.symm))]
theorem spec_ok {l : List IEV} (hl : l.all okEV = true) {ch : List Int} (hc : ch.length ≤ 1048576) {e : IEV} (he : OkE e) {k : Nat} (hk : 1048600 < k) : spec_SealJoin.f k l ch e.f0 e.f1 e.f2 e.f3 = some (join l ch e) := by
  obtain ⟨k, rfl⟩ : ∃ m, k = m + 2 := ⟨k - 2, by omega⟩
  have hE : spec_EventRight.f e.f0 e.f1 e.f2 e.f3 = some (T.EventRight (tEV e)) := by
    unfold spec_EventRight.f
    rw [if_pos (show okEV ⟨e.f0, e.f1, e.f2, e.f3⟩ = true from he)]
  have hT : spec_l16Text.f e.f0 e.f1 e.f2 e.f3 = some (T.evText (tEV e)) := by
    unfold spec_l16Text.f
    rw [if_pos (show okEV ⟨e.f0, e.f1, e.f2, e.f3⟩ = true from he)]
  have hA : spec_l19Right.f l = some (T.areE (l.map tEV)) := by unfold spec_l19Right.f; rw [if_pos hl]
  have hF : spec_SealFault.f l ch = some (T.SealFault (l.map tEV) ch) := by unfold spec_SealFault.f; rw [if_pos hl]
  have j1t : spec_SealJoin.j1 (k + 1) ch ch true e.f0 e.f1 e.f2 e.f3 = some ch := by
    simp only [spec_SealJoin.j1]
    rw [if_pos (by first | trivial | rfl)]
  have j0t : spec_SealJoin.j0 (k + 2) l ch true e.f0 e.f1 e.f2 e.f3 = some [] := by
    simp only [spec_SealJoin.j0]
    rw [if_pos (by first | trivial | rfl)]
  unfold spec_SealJoin.f join
  by_cases h1 : 400 < l.length
  · rw [if_pos (by omega), if_pos (.inl h1), j0t]
  · rw [if_neg (by omega)]
    by_cases h2 : 400 < ch.length
    · rw [decide_eq_true (by omega), if_pos (.inr h2), j0t]
    · rw [decide_eq_false (by omega), if_neg (by omega)]
      simp only [spec_SealJoin.j0, Option.bind_some, List.nil_append, List.length_nil]
      rw [if_neg (by simp), if_pos (by omega), hA]
      simp only [Option.bind_some]
      cases hr : T.areE (l.map tEV) with
      | false => rw [if_neg (by simp), if_pos (.inl (by first | trivial | rfl)), j1t]
      | true =>
        have h60 : l.length ≤ 60 := by simpa using areE_len hr
        have hSF : T.SealFault (l.map tEV) ch = T.faultFrom (T.chain (l.map tEV) 1) ch 0 := by
          unfold T.SealFault
          rw [if_neg (by rw [hr]; simp; omega), T.SealChain, if_pos hr]
        rw [if_pos (by first | trivial | rfl), hF, hSF]
        simp only [Option.bind_some]
        by_cases hq : T.chain (l.map tEV) 1 = ch
        · rw [if_pos ((T.faultFrom_iff _ _ 0).2 hq), hE]
          simp only [Option.bind_some]
          cases hev : T.EventRight (tEV e) with
          | false => rw [if_neg (by simp), if_pos (.inr (.inr (.inl (by first | trivial | rfl)))), j1t]
          | true =>
            rw [if_pos (by first | trivial | rfl)]
            by_cases hs : 60 ≤ l.length
            · rw [decide_eq_true (by omega), j1t, if_pos (.inr (.inr (.inr hs)))]
            · rw [decide_eq_false (by omega), if_neg (by simp; exact ⟨hq, by omega⟩)]
              have hlen : ch.length = l.length := by rw [← hq, T.chain_len]; simp
              rw [T.chain_snoc, hq]
              simp only [spec_SealJoin.j1]
              rw [if_neg (by simp), hT]
              simp only [Option.bind_some, spec_SealSum.f]
              by_cases hz : (ch.length : Int) > 0
              · have hw : wrap64 ((ch.length : Int) - 1) = (ch.length : Int) - 1 := wrap_id (by omega) (by omega)
                have hlast : rd ch ((ch.length : Int) - 1) = T.lastOr 1 ch := by
                  have h3 := rdN (xs := ch) (i := (ch.length : Int) - 1) (by omega) (by omega)
                  have h4 := T.lastOr_eq 1 ch (by omega)
                  rw [show ((ch.length : Int) - 1).toNat = ch.length - 1 by omega, h4] at h3
                  exact (Option.some.inj h3).symm
                rw [if_pos hz, hw, if_pos (by omega), if_pos (by omega), if_pos (by omega), hlast]
              · have : ch = [] := List.eq_nil_of_length_eq_zero (by omega)
                subst this
                rw [if_neg hz, if_pos (by simp)]
                rfl
        · rw [if_neg (fun h => hq ((T.faultFrom_iff _ _ 0).1 h)), j1t, if_pos (.inr (.inl hq))]
theorem law_ok {xs : List LEV} (hs : ∀ x ∈ xs, SmallE x) (hl : xs.length ≤ 9223372036854775807) {ch : List Int} {e : LEV} (he : SmallE e) : ∃ k, laws_FnExactSealJoin.f k xs ch e.f0 e.f1 e.f2 e.f3 = some true := by
  by_cases hbig : (ch.length : Int) > 1048576
  · exact ⟨0, by unfold laws_FnExactSealJoin.f; rw [if_pos hbig]⟩
  obtain ⟨K, hK⟩ : ∃ K : Nat, 2000000 ≤ K := ⟨2000000, Nat.le_refl _⟩
  refine ⟨K + 1, ?_⟩
  obtain ⟨r1, e1, b1, g1⟩ := szS_ok hs hl
  unfold laws_FnExactSealJoin.f
  rw [if_neg hbig, e1 (K + 1) (by omega)]
  simp only [Option.bind_some]
  by_cases hn : r1 < 0
  · rw [if_pos hn]
  · rw [if_neg hn]
    obtain ⟨gl, gx⟩ := g1 (by omega)
    obtain ⟨r2, e2, b2, g2⟩ := szE_ok e he r1 (by omega) b1
    rw [e2]
    simp only [Option.bind_some]
    by_cases hn2 : r2 < 0
    · rw [if_pos hn2]
    · rw [if_neg hn2]
      have ge := g2 (by omega)
      have hc : ch.length ≤ 1048576 := by omega
      have hall : (xs.map conv).all okEV = true := by
        rw [List.all_eq_true]
        intro y hy
        obtain ⟨x, hx, rfl⟩ := List.mem_map.1 hy
        obtain ⟨o1, o2, o3⟩ := gx x hx
        simp only [okEV, conv, Bool.and_eq_true]
        exact ⟨⟨decide_eq_true o1, decide_eq_true o2⟩, decide_eq_true o3⟩
      have hoe : OkE (conv e) := by
        obtain ⟨o1, o2, o3⟩ := ge
        simp only [OkE, okEV, conv, Bool.and_eq_true]
        exact ⟨⟨decide_eq_true o1, decide_eq_true o2⟩, decide_eq_true o3⟩
      have hi := fun k (hk : 1048600 < k) => impl_ok hall hc hoe hk
      have hsp := fun k (hk : 1048600 < k) => spec_ok hall hc hoe hk
      simp only [conv] at hi hsp
      have hjl := join_len (xs.map conv) ch (conv e) hc
      simp only [conv] at hjl
      generalize hj : join (xs.map conv) ch ⟨e.f0, e.f1, e.f2, e.f3⟩ = J at hi hsp hjl
      obtain ⟨rm, em⟩ := markE_ok (xs.map conv) (by simpa using gl)
      obtain ⟨ri, ei, _⟩ := marksI_ok (x0 := ch) (by omega) (a := 1 + 4 * ((xs.map conv).length : Int)) (by omega) (by simp; omega)
      obtain ⟨rj, ej, ehj⟩ := marksI_ok (x0 := J) hjl (a := 1) (by omega) (by omega)
      rw [toS_ok gl (by omega)]
      simp only [Option.bind_some]
      rw [toI_ok hc (by omega)]
      simp only [Option.bind_some, laws_toEvent.f]
      rw [hsp (K + 1) (by omega)]
      simp only [Option.bind_some]
      rw [hi (K + 1) (by omega)]
      simp only [Option.bind_some]
      rw [eqI_ok hjl (by omega)]
      simp only [Option.bind_some]
      rw [if_pos (by first | trivial | rfl), eqS_ok (by simpa using gl) (by omega)]
      simp only [Option.bind_some]
      rw [if_pos (by first | trivial | rfl), eqI_ok (by omega) (by omega)]
      simp only [Option.bind_some]
      rw [if_pos (by first | trivial | rfl), em (K + 1) (by omega)]
      simp only [Option.bind_some]
      rw [ei (K + 1) (by omega)]
      simp only [Option.bind_some]
      rw [if_neg (by omega)]
      simp only [laws_FnExactSealJoin.j0, Bool.not_true]
      rw [if_neg (by simp), ej K (by omega)]
      simp only [Option.bind_some]
      rw [ehj K (by omega)]
      simp only [Option.bind_some]
      rw [if_neg (by omega), if_pos (by first | trivial | rfl), toS_ok gl (by omega)]
      simp only [Option.bind_some]
      rw [toI_ok hc (by omega)]
      simp only [Option.bind_some, laws_toEvent.f]
      rw [hi K (by omega)]
      simp only [Option.bind_some]
      rw [eqI_ok hjl (by omega)]
      simp only [Option.bind_some]
      rw [if_pos (by first | trivial | rfl), if_neg (by omega), if_pos (by first | trivial | rfl)]
end Go.Proofs.Ytfhoiagecicleaa.Pure
namespace Go.Proofs.Ytfhoiagecicleaa.T
open Go.RowKit Go.Proofs.Ytfhoiagecicleaa.PFnExactSealJoin Go.Proofs.Ytfhoiagecicleaa.DFnExactSealJoin Go.Proofs.YtfhoiagecicleaaW.PrintWords Go.Proofs.YtfhoiagecicleaaW.PrintLast
def toL (x : Event) : LEV := ⟨x.kind, x.a, x.b, x.c⟩
theorem law_SealJoin (xs : List Event) (v : Value) (ch : List Int) (vc : Value) (e : Event) (w : World) (hv : Rows Event.cs 4 w v xs) (hs : ∀ (k : Nat) (x : Event), xs[k]? = some x → x.small) (hvc : Rows intCs 1 w vc ch) (_hc : ∀ (k : Nat) (x : Int), ch[k]? = some x → i64 x) (he : e.small) :
    Calls Try.prog 9 #[v, vc, e.v] w fun r w' => r = .returned (.bool true) ∧ Below w.heap.size w w' := by
  have hl : xs.length ≤ 9223372036854775807 := by obtain ⟨_, _, _, _, h, _⟩ := hv; exact h
  obtain ⟨A0, c0, rfl, hc0, h0⟩ := C_of_rows toL (d := k27) rfl (fun w x => k27_mk w (toL x)) (fun _ => rfl) hv
  obtain ⟨A1, c1, rfl, hc1, h1⟩ := C_of_rows id (d := Kd.int .i64) rfl (fun w x => rfl) (fun _ => rfl) hvc
  rw [List.map_id] at h1
  have hsm : ∀ x : Event, x.small → SmallE (toL x) := fun x h => by
    obtain ⟨_, h1, h2, h3⟩ := h
    exact ⟨h1, h2, h3⟩
  obtain ⟨k, hk⟩ := Pure.law_ok (xs := xs.map toL) (fun x hx => by
    obtain ⟨y, hy, rfl⟩ := List.mem_map.1 hx
    obtain ⟨j, hj⟩ := List.getElem?_of_mem hy
    exact hsm y (hs j y hj)) (by simpa using hl) (ch := ch) (hsm e he)
  have := laws_FnExactSealJoin.calls k A0 c0 (xs.map toL) A1 c1 ch e.kind e.a e.b e.c true w (by simpa using h0) (by simpa using hc0) h1 hc1 hk
  simpa using this
end Go.Proofs.Ytfhoiagecicleaa.T
