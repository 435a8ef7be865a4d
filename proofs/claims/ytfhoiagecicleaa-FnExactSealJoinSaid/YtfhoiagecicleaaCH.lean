/- Seals' chains: l19Right, chainOf, SealChain, SealFault of impl and of spec. -/
import Derived.Test.YtfhoiagecicleaaET
import Derived.Test.YtfhoiagecicleaaSS
import Derived.Test.YtfhoiagecicleaaCL
namespace Go.Proofs.Ytfhoiagecicleaa.T
open Go.RowKit
attribute [local go_sem] max2_int max_two
theorem own_below {W W' : World} {B e size n : Nat} {v : Value} {xs : List Value} (h : W.ownsRow B e size v n xs) (hb : Below W.heap.size W W') : W'.ownsRow B e size v n xs := by
  obtain ⟨h1, h2⟩ := h
  refine ⟨h1, ?_⟩
  rcases h2 with h2 | ⟨g, cap, cur, rfl, hg, hh, r⟩
  · exact .inl h2
  · exact .inr ⟨g, cap, cur, rfl, hg, (hb.block g (Array.getElem?_eq_some_iff.1 hh).1).trans hh, r⟩
theorem own_less {W : World} {b base n : Nat} {e : TypeId} {size : Nat} {v : Value} {xs : List Value} (h : W.ownsRow b e size v n xs) (hle : base ≤ b) : W.ownsRow base e size v n xs := by
  obtain ⟨h1, h2⟩ := h
  refine ⟨h1, ?_⟩
  rcases h2 with h2 | ⟨g, cap, cur, rfl, hg, r⟩
  · exact .inl h2
  · exact .inr ⟨g, cap, cur, rfl, Nat.le_trans hle hg, r⟩
def chain : List Event → Int → List Int
  | [], _ => []
  | x :: xs, n => SealSum n (evText x) :: chain xs (SealSum n (evText x))
theorem chain_len : ∀ (xs : List Event) (n : Int), (chain xs n).length = xs.length
  | [], _ => rfl
  | x :: xs, n => by rw [chain, List.length_cons, chain_len xs, List.length_cons]
def SealChain (xs : List Event) : List Int := if areE xs then chain xs 1 else []
theorem SealChain_len (xs : List Event) : (SealChain xs).length ≤ 60 := by
  unfold SealChain
  split
  · rename_i h
    rw [chain_len]
    simp [areE] at h
    exact h.1
  · simp
set_option maxHeartbeats 1000000 in
set_option maxRecDepth 100000 in
theorem l19_calls (xs : List Event) (v : Value) (w : World) (hv : Rows Event.cs 4 w v xs) (hs : All1 xs) :
    Calls Try.prog 49 #[v] w fun e w' => e = .returned (.bool (areE xs)) ∧ Below w.heap.size w w' := by
  obtain ⟨A, c, rfl, hc, h63, hrow⟩ := hv
  have HW := Lib.hid hrow; have HS := Lib.hid hs; clear hrow hs
  by_cases hl : 60 < xs.length
  · have HF := Lib.hid (show false = areE xs by simp [areE]; omega)
    go_enter Try.func49, Try.ntmps49
    go_wp2
    go_ret
    exact ⟨ret_bool HF.out, Below.refl _ _⟩
  · have HF := Lib.hid (show allE xs = areE xs by simp [areE]; omega)
    go_enter Try.func49, Try.ntmps49
    go_wp2
    go_loopw [3] (fun i w' => ∃ (k : Nat), k ≤ xs.length ∧ i = .int .i64 k ∧ allE (xs.drop k) = areE xs ∧ Below w.heap.size w w') (fun i _ => xs.length - (intOf i).toNat)
    case atStart => exact ⟨0, Nat.zero_le _, rfl, HF.out, Below.refl _ _⟩
    case round =>
      obtain ⟨k, hk, rfl, hr, hb⟩ := hrel
      have HB := Lib.hid hb; clear hb
      by_cases hlt : k < xs.length
      · obtain ⟨x, hx, hd⟩ := split_at hlt
        obtain ⟨ad, rfl, hcell⟩ := HW.out k x hx
        have HX := Lib.hid (HS.out k x hx).strs
        rw [hd, allE, List.all_cons] at hr
        have HR := Lib.hid hr; clear hr hx hd
        obtain ⟨c0, c1, c2, c3⟩ := (hcell.below HB.out).four
        clear hcell
        by_cases h0 : EventRight x = true
        · have HQ := Lib.hid h0
          rw [h0, Bool.true_and] at HR; clear h0
          go_wp2_with (go_at_call 16; refine (s_EventRight _ _ HX.out).mono ?_; rintro e w1 ⟨rfl, hb1⟩; rw [HQ.out])
          go_roundw
          case rel => exact ⟨k + 1, by omega, by go_num, HR.out, below_trans HB.out hb1⟩
          case measure => simp [intOf]; omega
        · have h1 : EventRight x = false := by simpa using h0
          have HQ := Lib.hid h1
          rw [h1, Bool.false_and] at HR; clear h0 h1
          go_wp2_with (go_at_call 16; refine (s_EventRight _ _ HX.out).mono ?_; rintro e w1 ⟨rfl, hb1⟩; rw [HQ.out])
          go_ret
          exact ⟨ret_bool HR.out, below_trans HB.out hb1⟩
      · have hd : xs.drop k = [] := List.drop_of_length_le (by omega)
        rw [hd] at hr
        have HR := Lib.hid hr; clear hr hd
        go_wp2
        go_ret
        exact ⟨ret_bool HR.out, HB.out⟩
set_option maxHeartbeats 1000000 in
set_option maxRecDepth 100000 in
theorem chainOf_calls (xs : List Event) (v : Value) (w : World) (hv : Rows Event.cs 4 w v xs) (hs : All1 xs) (h60 : xs.length ≤ 60) :
    Calls Try.prog 52 #[v] w fun e w' => ∃ v', e = .returned v' ∧ w'.ownsRow w.heap.size 2 1 v' (chain xs 1).length (ints (chain xs 1)) ∧ Below w.heap.size w w' := by
  obtain ⟨A, c, rfl, hc, h63, hrow⟩ := hv
  have HW := Lib.hid hrow; have HS := Lib.hid hs; clear hrow hs
  go_enter Try.func52, Try.ntmps52
  go_wp2
  go_loopw [3, 4, 10] (fun o m i w' => ∃ (k : Nat) (pre : List Int) (n : Int), k ≤ xs.length ∧ i = .int .i64 k ∧ m = .int .i64 n ∧ pre.length = k ∧ Hid (pre ++ chain (xs.drop k) n = chain xs 1) ∧ w'.ownsRow w.heap.size 2 1 o pre.length (ints pre) ∧ Below w.heap.size w w') (fun _ _ i _ => xs.length - (intOf i).toNat)
  case atStart => exact ⟨0, [], 1, Nat.zero_le _, rfl, rfl, rfl, rfl, own_new (Nat.le_refl _), below_alloc (Below.refl _ _) _⟩
  case round =>
    obtain ⟨k, pre, n, hk, rfl, rfl, hl, hr, ho, hb⟩ := hrel
    have HB := Lib.hid hb; clear hb
    have hr := hr.out
    by_cases hlt : k < xs.length
    · obtain ⟨x, hx, hd⟩ := split_at hlt
      obtain ⟨ad, rfl, hcell⟩ := HW.out k x hx
      have HX := Lib.hid (HS.out k x hx)
      rw [hd, chain] at hr
      have HR := Lib.hid hr; have HO := Lib.hid ho; have HL := Lib.hid hl; clear hr hx hd ho hl
      obtain ⟨c0, c1, c2, c3⟩ := (hcell.below HB.out).four
      clear hcell
      go_wp2_with fail
      refine (i_eventText _ _ HX.out).mono ?_
      rintro e w1 ⟨rfl, hb1⟩
      have O1 := Lib.hid (own_below (HO.out.alloc _) hb1)
      have B1 := Lib.hid (below_trans (below_alloc HB.out _) hb1); clear hb1 c0 c1 c2 c3
      go_wp2_with fail
      refine (i_SealSum _ _ _).mono ?_
      rintro e w2 ⟨rfl, hb2⟩
      have O2 := Lib.hid (own_below O1.out hb2)
      have B2 := Lib.hid (below_trans B1.out hb2); clear hb2
      go_wp2_with (at_builtin; refine wpList_app (W := w2) rfl w.heap.size (.tmp 18) (.tmp 20) 40 2 (.int .i64 0) 1 8 rfl Try.underlying40 infoI rfl (by omega) (by omega) _ pre.length (ints pre) 1 [.int .i64 (SealSum n (evText x))] (by simp [Act.eval]) (by simp [Act.eval]) (by omega) rfl (by simp [Value.oneCell']) O2.out B2.out B2.out.size (by have := HL.out; omega) ?_; intro g cap w3 ho3 hb3 hg3 ha3)
      go_roundw
      case rel => exact ⟨k + 1, pre ++ [SealSum n (evText x)], _, by omega, by go_num, rfl, by simp [HL.out], Lib.hid (by simpa using HR.out), by simpa [ints] using ho3, hb3⟩
      case measure => simp [intOf]; omega
    · have hd : xs.drop k = [] := List.drop_of_length_le (by omega)
      rw [hd, chain, List.append_nil] at hr
      have HR := Lib.hid hr; have HO := Lib.hid ho; clear hr hd ho
      go_wp2
      go_ret
      exact ⟨_, rfl, by rw [← HR.out]; exact HO.out, HB.out⟩
set_option maxRecDepth 100000 in
theorem i_SealChain (xs : List Event) (v : Value) (w : World) (hv : Rows Event.cs 4 w v xs) (hs : All1 xs) :
    Calls Try.prog 29 #[v] w fun e w' => ∃ v', e = .returned v' ∧ w'.ownsRow w.heap.size 2 1 v' (SealChain xs).length (ints (SealChain xs)) ∧ Below w.heap.size w w' := by
  have HV := Lib.hid hv; have HS := Lib.hid hs; clear hv hs
  by_cases h0 : areE xs = true
  · have HF := Lib.hid (show chain xs 1 = SealChain xs by rw [SealChain, if_pos h0])
    have h60 := Lib.hid (show xs.length ≤ 60 by simp [areE] at h0; exact h0.1)
    have HQ := Lib.hid h0; clear h0
    go_enter Try.func29, Try.ntmps29
    go_wp2_with fail
    refine (areE_calls _ _ _ HV.out HS.out).mono ?_
    rintro e w1 ⟨rfl, hb1⟩
    rw [HQ.out]
    have B1 := Lib.hid hb1; clear hb1
    go_wp2_with fail
    refine (chainOf_calls _ _ _ (HV.out.below B1.out) HS.out h60.out).mono ?_
    rintro e w2 ⟨v2, rfl, ho2, hb2⟩
    have O2 := Lib.hid ho2; have B2 := Lib.hid (below_trans B1.out hb2); clear ho2 hb2
    go_wp2
    go_ret
    exact ⟨_, rfl, by rw [← HF.out]; exact own_less O2.out B1.out.size, B2.out⟩
  · have HF := Lib.hid (show [] = SealChain xs by rw [SealChain, if_neg h0])
    have HQ := Lib.hid (show areE xs = false by simpa using h0); clear h0
    go_enter Try.func29, Try.ntmps29
    go_wp2_with fail
    refine (areE_calls _ _ _ HV.out HS.out).mono ?_
    rintro e w1 ⟨rfl, hb1⟩
    rw [HQ.out]
    go_wp2
    go_ret
    exact ⟨_, rfl, by rw [← HF.out]; exact ⟨rfl, .inl ⟨rfl, rfl⟩⟩, hb1⟩
set_option maxHeartbeats 1000000 in
set_option maxRecDepth 100000 in
theorem s_SealChain (xs : List Event) (v : Value) (w : World) (hv : Rows Event.cs 4 w v xs) (hs : All1 xs) :
    Calls Try.prog 28 #[v] w fun e w' => ∃ v', e = .returned v' ∧ w'.ownsRow w.heap.size 2 1 v' (SealChain xs).length (ints (SealChain xs)) ∧ Below w.heap.size w w' := by
  have HV := Lib.hid hv
  obtain ⟨A, c, rfl, hc, h63, hrow⟩ := hv
  have HW := Lib.hid hrow; have HS := Lib.hid hs; clear hrow hs
  by_cases h0 : areE xs = true
  · have HF := Lib.hid (show chain xs 1 = SealChain xs by rw [SealChain, if_pos h0])
    have h60 : xs.length ≤ 60 := by simp [areE] at h0; exact h0.1
    have HQ := Lib.hid h0; clear h0
    go_enter Try.func28, Try.ntmps28
    go_wp2_with fail
    refine (l19_calls _ _ _ (HV.out.below (below_alloc (Below.refl _ _) _)) HS.out).mono ?_
    rintro e w1 ⟨rfl, hb1⟩
    rw [HQ.out]
    have O1 := Lib.hid (own_below (own_new (e := 2) (size := 1) (Nat.le_refl _)) hb1)
    have B1 := Lib.hid (below_trans (below_alloc (Below.refl _ _) _) hb1); clear hb1
    go_wp2
    go_loopw [3, 4, 5] (fun o m i w' => ∃ (k : Nat) (pre : List Int) (n : Int), k ≤ xs.length ∧ i = .int .i64 k ∧ m = .int .i64 n ∧ pre.length = k ∧ Hid (pre ++ chain (xs.drop k) n = chain xs 1) ∧ w'.ownsRow w.heap.size 2 1 o pre.length (ints pre) ∧ Below w.heap.size w w') (fun _ _ i _ => xs.length - (intOf i).toNat)
    case atStart => exact ⟨0, [], 1, Nat.zero_le _, rfl, rfl, rfl, rfl, O1.out, B1.out⟩
    case round =>
      obtain ⟨k, pre, n, hk, rfl, rfl, hl, hr, ho, hb⟩ := hrel
      have HB := Lib.hid hb; clear hb
      have hr := hr.out
      by_cases hlt : k < xs.length
      · obtain ⟨x, hx, hd⟩ := split_at hlt
        obtain ⟨ad, rfl, hcell⟩ := HW.out k x hx
        have HX := Lib.hid (HS.out k x hx)
        rw [hd, chain] at hr
        have HR := Lib.hid hr; have HO := Lib.hid ho; have HL := Lib.hid hl; clear hr hx hd ho hl
        obtain ⟨c0, c1, c2, c3⟩ := (hcell.below HB.out).four
        clear hcell
        go_wp2_with fail
        refine (s_l16Text _ _ HX.out).mono ?_
        rintro e w2 ⟨rfl, hb1⟩
        have O2 := Lib.hid (own_below HO.out hb1)
        have B2 := Lib.hid (below_trans HB.out hb1); clear hb1 c0 c1 c2 c3
        go_wp2_with fail
        refine (s_SealSum _ _ _).mono ?_
        rintro e w3 ⟨rfl, rfl⟩
        go_wp2_with (at_builtin; refine wpList_app (W := w3) rfl w.heap.size (.tmp 24) (.tmp 26) 40 2 (.int .i64 0) 1 8 rfl Try.underlying40 infoI rfl (by omega) (by omega) _ pre.length (ints pre) 1 [.int .i64 (SealSum n (evText x))] (by simp [Act.eval]) (by simp [Act.eval]) (by omega) rfl (by simp [Value.oneCell']) O2.out B2.out B2.out.size (by have := HL.out; omega) ?_; intro g cap w4 ho3 hb3 hg3 ha3)
        go_roundw
        case rel => exact ⟨k + 1, pre ++ [SealSum n (evText x)], _, by omega, by go_num, rfl, by simp [HL.out], Lib.hid (by simpa using HR.out), by simpa [ints] using ho3, hb3⟩
        case measure => simp [intOf]; omega
      · have hd : xs.drop k = [] := List.drop_of_length_le (by omega)
        rw [hd, chain, List.append_nil] at hr
        have HR := Lib.hid hr; have HO := Lib.hid ho; clear hr hd ho
        go_wp2
        go_ret
        exact ⟨_, rfl, by rw [← HF.out, ← HR.out]; exact HO.out, HB.out⟩
  · have HF := Lib.hid (show [] = SealChain xs by rw [SealChain, if_neg h0])
    have HQ := Lib.hid (show areE xs = false by simpa using h0); clear h0
    go_enter Try.func28, Try.ntmps28
    go_wp2_with fail
    refine (l19_calls _ _ _ (HV.out.below (below_alloc (Below.refl _ _) _)) HS.out).mono ?_
    rintro e w1 ⟨rfl, hb1⟩
    rw [HQ.out]
    have O1 := Lib.hid (own_below (own_new (e := 2) (size := 1) (Nat.le_refl _)) hb1)
    have B1 := Lib.hid (below_trans (below_alloc (Below.refl _ _) _) hb1); clear hb1
    go_wp2
    go_ret
    exact ⟨_, rfl, by rw [← HF.out]; exact O1.out, B1.out⟩
def faultFrom : List Int → List Int → Nat → Int
  | x :: xs, y :: ys, k => if x = y then faultFrom xs ys (k + 1) else (k : Int)
  | xs, ys, k => if xs.length = ys.length then -1 else (k : Int)
def SealFault (xs : List Event) (ch : List Int) : Int := if 400 < ch.length ∨ areE xs = false then 0 else faultFrom (SealChain xs) ch 0
theorem faultFrom_end {xs ys : List Int} {k : Nat} (h : xs = [] ∨ ys = []) : faultFrom xs ys k = if xs.length = ys.length then -1 else (k : Int) := by
  cases xs <;> cases ys <;> simp_all [faultFrom]
theorem fault_last {own ch : List Int} {k : Nat} (h : k = own.length ∧ k ≤ ch.length ∨ k = ch.length ∧ k ≤ own.length) : faultFrom (own.drop k) (ch.drop k) k = if own.length = ch.length then -1 else (k : Int) := by
  rw [faultFrom_end]
  · rw [List.length_drop, List.length_drop]
    split <;> split <;> first | rfl | omega
  · rcases h with ⟨h, _⟩ | ⟨h, _⟩
    · exact .inl (List.drop_of_length_le (by omega))
    · exact .inr (List.drop_of_length_le (by omega))
theorem min2_int (k k' : IntKind) (x y : Int) : Builtin.min2 (.int k x) (.int k' y) = pure (.int k (if y < x then y else x)) := by simp only [Builtin.min2]
theorem min_two (ats : Array TypeId) (ty : TypeId) (a b : Value) : Builtin.min_ ats ty #[a, b] = (Builtin.min2 a b >>= fun s => pure s) := by simp only [Builtin.min_, List.foldlM_cons, List.foldlM_nil]
attribute [local go_sem] min2_int min_two
theorem longI_calls (ch : List Int) (v : Value) (w : World) (hv : Rows intCs 1 w v ch) : Calls Try.prog 51 #[v] w fun e w' => e = .returned (.bool (decide (400 < ch.length))) ∧ w' = w := by
  obtain ⟨A, c, rfl, hc, h63, _⟩ := hv
  go_enter Try.func51, Try.ntmps51
  go_wp2
  go_ret
  exact ⟨ret_bool (by simp; omega), rfl⟩
set_option maxHeartbeats 1000000 in
set_option maxRecDepth 100000 in
theorem i_SealFault (xs : List Event) (v : Value) (ch : List Int) (v' : Value) (w : World) (hv : Rows Event.cs 4 w v xs) (hs : All1 xs) (hv' : Rows intCs 1 w v' ch) :
    Calls Try.prog 26 #[v, v'] w fun e w' => e = .returned (.int .i64 (SealFault xs ch)) ∧ Below w.heap.size w w' := by
  have HV := Lib.hid hv; have HS := Lib.hid hs; clear hv hs
  have HC := Lib.hid hv'; clear hv'
  by_cases h4 : 400 < ch.length
  · have HF := Lib.hid (show 0 = SealFault xs ch by rw [SealFault, if_pos (.inl h4)])
    have HQ := Lib.hid (decide_eq_true h4); clear h4
    go_enter Try.func26, Try.ntmps26
    go_wp2_with fail
    refine (longI_calls _ _ _ HC.out).mono ?_
    rintro e w1 ⟨rfl, rfl⟩
    rw [HQ.out]
    go_wp2
    go_ret
    exact ⟨ret_int HF.out, Below.refl _ _⟩
  have H4 := Lib.hid (decide_eq_false h4)
  by_cases h0 : areE xs = true
  · have HF := Lib.hid (show faultFrom (SealChain xs) ch 0 = SealFault xs ch by rw [SealFault, if_neg (by simp [h0]; omega)])
    have HG := Lib.hid (show chain xs 1 = SealChain xs by rw [SealChain, if_pos h0])
    have h60 := Lib.hid (show xs.length ≤ 60 by simp [areE] at h0; exact h0.1)
    have HQ := Lib.hid h0; clear h0
    go_enter Try.func26, Try.ntmps26
    go_wp2_with fail
    refine (longI_calls _ _ _ HC.out).mono ?_
    rintro e w1 ⟨rfl, rfl⟩
    rw [H4.out]
    go_wp2_with fail
    refine (areE_calls _ _ _ HV.out HS.out).mono ?_
    rintro e w2 ⟨rfl, hb2⟩
    rw [HQ.out]
    have B2 := Lib.hid hb2; clear hb2
    go_wp2_with fail
    refine (chainOf_calls _ _ _ (HV.out.below B2.out) HS.out h60.out).mono ?_
    rintro e w3 ⟨v3, rfl, ho3, hb3⟩
    have B3 := Lib.hid (below_trans B2.out hb3); clear hb3
    rw [HG.out] at ho3
    obtain ⟨A, c, rfl, hc, h63, hrow⟩ := rows_own1 ho3
    have HC3 := HC.out.below B3.out
    obtain ⟨A', c', rfl, hc', h63', hrow'⟩ := HC3
    have HW := Lib.hid hrow; have HW' := Lib.hid hrow'; clear hrow hrow' ho3
    have hl6 := SealChain_len xs
    have hF := HF.out; clear HF HG
    generalize SealChain xs = own at *
    have HF := Lib.hid hF; clear hF
    have hM : (if ch.length < own.length then (ch.length : Int) else own.length) = ((min own.length ch.length : Nat) : Int) := by split <;> omega
    have hm1 : min own.length ch.length ≤ own.length := Nat.min_le_left _ _
    have hm2 : min own.length ch.length ≤ ch.length := Nat.min_le_right _ _
    have hm3 := Lib.hid (show min own.length ch.length = own.length ∨ min own.length ch.length = ch.length by omega)
    generalize min own.length ch.length = M at *
    go_wp2
    go_loopw [21] (fun i w' => ∃ (k : Nat), k ≤ M ∧ i = .int .i64 k ∧ faultFrom (own.drop k) (ch.drop k) k = SealFault xs ch ∧ Below w1.heap.size w1 w' ∧ Below w3.heap.size w3 w') (fun i _ => M - (intOf i).toNat)
    case atStart => exact ⟨0, Nat.zero_le _, rfl, HF.out, B3.out, Below.refl _ _⟩
    case round =>
      obtain ⟨k, hk, rfl, hr, hb, hb3⟩ := hrel
      have HB := Lib.hid hb; have HB3 := Lib.hid hb3; clear hb hb3
      by_cases hlt : k < M
      · obtain ⟨x, hx, hd⟩ := split_at (show k < own.length by omega)
        obtain ⟨y, hy, hd'⟩ := split_at (show k < ch.length by omega)
        obtain ⟨ad, rfl, hcell⟩ := HW.out k x hx
        obtain ⟨ad', rfl, hcell'⟩ := HW'.out k y hy
        rw [hd, hd', faultFrom] at hr
        have HR := Lib.hid hr; clear hr hx hd hy hd'
        rw [Nat.mul_one] at hcell hcell'
        have c0 := (hcell.below HB3.out).1 _ rfl
        have d0 := (hcell'.below HB3.out).1 _ rfl
        clear hcell hcell'
        by_cases b : x = y
        · have b' : (x != y) = false := by simp [b]
          rw [if_pos b] at HR
          clear b
          go_wp2
          go_quiet (fail)
          go_wp2
          go_roundw
          case rel => exact ⟨k + 1, by omega, by go_num, HR.out, below_drewN HB.out _, below_drewN HB3.out _⟩
          case measure => simp [intOf]; omega
        · have b' : (x != y) = true := by simp [b]
          rw [if_neg b] at HR
          clear b
          go_wp2
          go_quiet (fail)
          go_wp2
          go_ret
          exact ⟨ret_int HR.out, below_drewN HB.out _⟩
      · have hk' : k = M := by omega
        subst hk'
        have hm := hm3.out
        rw [fault_last (by omega)] at hr
        by_cases he : own.length = ch.length
        · have he1 : ((own.length : Int) == ch.length) = true := by simp [he]
          rw [if_pos he] at hr
          have HR := Lib.hid hr; clear hr he hm
          go_wp2
          go_ret
          exact ⟨ret_int HR.out, HB.out⟩
        · have he1 : ((own.length : Int) == ch.length) = false := by simp; omega
          rw [if_neg he] at hr
          have HR := Lib.hid hr; clear hr he hm
          go_wp2
          go_ret
          exact ⟨ret_int HR.out, HB.out⟩
  · have HF := Lib.hid (show 0 = SealFault xs ch by rw [SealFault, if_pos (.inr (by simpa using h0))])
    have HQ := Lib.hid (show areE xs = false by simpa using h0); clear h0
    go_enter Try.func26, Try.ntmps26
    go_wp2_with fail
    refine (longI_calls _ _ _ HC.out).mono ?_
    rintro e w1 ⟨rfl, rfl⟩
    rw [H4.out]
    go_wp2_with fail
    refine (areE_calls _ _ _ HV.out HS.out).mono ?_
    rintro e w2 ⟨rfl, hb2⟩
    rw [HQ.out]
    go_wp2
    go_ret
    exact ⟨ret_int HF.out, hb2⟩
theorem s_min_calls (a b : Int) (w : World) : Calls Try.prog 50 #[.int .i64 a, .int .i64 b] w fun e w' => e = .returned (.int .i64 (if a < b then a else b)) ∧ w' = w := by
  go_enter Try.func50, Try.ntmps50
  go_wp2
  all_goals (go_ret; exact ⟨ret_int (by first | rfl | (split <;> omega)), rfl⟩)
set_option maxHeartbeats 1000000 in
set_option maxRecDepth 100000 in
theorem s_SealFault (xs : List Event) (v : Value) (ch : List Int) (v' : Value) (w : World) (hv : Rows Event.cs 4 w v xs) (hs : All1 xs) (hv' : Rows intCs 1 w v' ch) :
    Calls Try.prog 24 #[v, v'] w fun e w' => e = .returned (.int .i64 (SealFault xs ch)) ∧ Below w.heap.size w w' := by
  have HV := Lib.hid hv; have HS := Lib.hid hs; clear hs
  have HC := Lib.hid hv'
  obtain ⟨A0, c0, rfl, hc0, h630, _⟩ := hv
  obtain ⟨A', c', rfl, hc', h63', _⟩ := hv'
  by_cases h3 : 400 < xs.length
  · have HF := Lib.hid (show 0 = SealFault xs ch by rw [SealFault, if_pos (.inr (by simp [areE]; omega))])
    go_enter Try.func24, Try.ntmps24
    go_wp2
    go_ret
    exact ⟨ret_int HF.out, Below.refl _ _⟩
  by_cases h4 : 400 < ch.length
  · have HF := Lib.hid (show 0 = SealFault xs ch by rw [SealFault, if_pos (.inl h4)])
    go_enter Try.func24, Try.ntmps24
    go_wp2
    go_ret
    exact ⟨ret_int HF.out, Below.refl _ _⟩
  by_cases h0 : areE xs = true
  · have HF := Lib.hid (show faultFrom (SealChain xs) ch 0 = SealFault xs ch by rw [SealFault, if_neg (by simp [h0]; omega)])
    have HQ := Lib.hid h0; clear h0
    go_enter Try.func24, Try.ntmps24
    go_wp2_with fail
    refine (l19_calls _ _ _ HV.out HS.out).mono ?_
    rintro e w2 ⟨rfl, hb2⟩
    rw [HQ.out]
    have B2 := Lib.hid hb2; clear hb2
    go_wp2_with fail
    refine (s_SealChain _ _ _ (HV.out.below B2.out) HS.out).mono ?_
    rintro e w3 ⟨v3, rfl, ho3, hb3⟩
    have B3 := Lib.hid (below_trans B2.out hb3); clear hb3
    obtain ⟨A, c, rfl, hc, h63, hrow⟩ := rows_own1 ho3
    obtain ⟨A2, c2, he2, _, _, hrow'⟩ := HC.out.below B3.out
    obtain ⟨rfl, _, rfl⟩ := Value.slice.inj he2
    have HW := Lib.hid hrow; have HW' := Lib.hid hrow'; clear hrow hrow' ho3 he2
    have hl6 := SealChain_len xs
    have hF := HF.out; clear HF
    generalize SealChain xs = own at *
    have HF := Lib.hid hF; clear hF
    go_wp2
    go_loopw [6] (fun i w' => ∃ (k : Nat), k ≤ own.length ∧ k ≤ ch.length ∧ i = .int .i64 k ∧ faultFrom (own.drop k) (ch.drop k) k = SealFault xs ch ∧ Below w.heap.size w w' ∧ Below w3.heap.size w3 w') (fun i _ => own.length - (intOf i).toNat)
    case atStart => exact ⟨0, Nat.zero_le _, Nat.zero_le _, rfl, HF.out, B3.out, Below.refl _ _⟩
    case round =>
      obtain ⟨k, hk1, hk2, rfl, hr, hb, hb3⟩ := hrel
      have HB := Lib.hid hb; have HB3 := Lib.hid hb3; clear hb hb3
      by_cases hlt : k < own.length ∧ k < ch.length
      · obtain ⟨hlt1, hlt2⟩ := hlt
        obtain ⟨x, hx, hd⟩ := split_at hlt1
        obtain ⟨y, hy, hd'⟩ := split_at hlt2
        obtain ⟨ad, rfl, hcell⟩ := HW.out k x hx
        obtain ⟨ad', rfl, hcell'⟩ := HW'.out k y hy
        rw [hd, hd', faultFrom] at hr
        have HR := Lib.hid hr; clear hr hx hd hy hd'
        rw [Nat.mul_one] at hcell hcell'
        have c0 := (hcell.below HB3.out).1 _ rfl
        have d0 := (hcell'.below HB3.out).1 _ rfl
        clear hcell hcell'
        by_cases b : x = y
        · have b' : (x != y) = false := by simp [b]
          rw [if_pos b] at HR
          clear b
          go_wp2
          go_quiet (fail)
          go_wp2
          go_roundw
          case rel => exact ⟨k + 1, by omega, by omega, by go_num, HR.out, below_drewN HB.out _, below_drewN HB3.out _⟩
          case measure => simp [intOf]; omega
        · have b' : (x != y) = true := by simp [b]
          rw [if_neg b] at HR
          clear b
          go_wp2
          go_quiet (fail)
          go_wp2
          go_ret
          exact ⟨ret_int HR.out, below_drewN HB.out _⟩
      · rw [fault_last (by omega)] at hr
        by_cases he : own.length = ch.length
        · have he1 : ((own.length : Int) == ch.length) = true := by simp [he]
          have hk3 : k = own.length := by omega
          rw [if_pos he] at hr
          have HR := Lib.hid hr; clear hr he
          subst hk3
          go_wp2
          go_ret
          exact ⟨ret_int HR.out, HB.out⟩
        · have he1 : ((own.length : Int) == ch.length) = false := by simp; omega
          rw [if_neg he] at hr
          have HR := Lib.hid hr; clear hr
          have hL : (if (own.length : Int) < ch.length then (own.length : Int) else ch.length) = k := by split <;> omega
          have HL := Lib.hid hL; clear hL
          by_cases hk3 : k = own.length
          · subst hk3
            go_wp2_with (go_at_call 50; refine (s_min_calls _ _ _).mono ?_; rintro e w4 ⟨rfl, rfl⟩; rw [HL.out])
            go_ret
            exact ⟨ret_int HR.out, HB.out⟩
          · have hk4 : k = ch.length := by omega
            subst hk4
            have hk5 : ch.length < own.length := by omega
            go_wp2_with (go_at_call 50; refine (s_min_calls _ _ _).mono ?_; rintro e w4 ⟨rfl, rfl⟩; rw [HL.out])
            go_ret
            exact ⟨ret_int HR.out, HB.out⟩
  · have HF := Lib.hid (show 0 = SealFault xs ch by rw [SealFault, if_pos (.inr (by simpa using h0))])
    have HQ := Lib.hid (show areE xs = false by simpa using h0); clear h0
    go_enter Try.func24, Try.ntmps24
    go_wp2_with fail
    refine (l19_calls _ _ _ HV.out HS.out).mono ?_
    rintro e w2 ⟨rfl, hb2⟩
    rw [HQ.out]
    go_wp2
    go_ret
    exact ⟨ret_int HF.out, hb2⟩
end Go.Proofs.Ytfhoiagecicleaa.T
