/- The texts of events: eventText (impl), l16Text (spec), said, strings.Join of one text; areEvents; EventsText. -/
import Derived.Test.YtfhoiagecicleaaHX
import Derived.Test.YtfhoiagecicleaaEV
import Derived.Laws.Concat
namespace Go.Proofs.Ytfhoiagecicleaa.T
open Go.RowKit
abbrev cNl : ByteArray := ⟨#[10]⟩
abbrev cSp : ByteArray := ⟨#[32]⟩
abbrev cPartner : ByteArray := ⟨#[112, 97, 114, 116, 110, 101, 114, 32]⟩
abbrev cCross : ByteArray := ⟨#[99, 114, 111, 115, 115, 32]⟩
abbrev cTakeNo : ByteArray := ⟨#[116, 97, 107, 101, 32, 45]⟩
abbrev cTake : ByteArray := ⟨#[116, 97, 107, 101, 32]⟩
abbrev cNext : ByteArray := ⟨#[110, 101, 120, 116]⟩
def evText (e : Event) : ByteArray :=
  if e.kind = 1 then cPartner ++ e.a
  else if e.kind = 2 then cCross ++ e.a ++ cSp ++ e.b ++ cSp ++ e.c
  else if e.kind = 3 then (if isE e.a then cTakeNo else cTake ++ Hex e.a)
  else cNext
def Event.s1 (e : Event) : Prop := e.a.size ≤ 1048576 ∧ e.b.size ≤ 1048576 ∧ e.c.size ≤ 1048576
theorem Event.s1.strs {e : Event} (h : e.s1) : e.strs := ⟨Nat.le_trans h.1 (by decide), Nat.le_trans h.2.1 (by decide), Nat.le_trans h.2.2 (by decide)⟩
theorem hexFrom_len (s : ByteArray) (k : Nat) : (hexFrom s k).length = 2 * (s.size - k) := by
  rw [hexFrom]
  by_cases h : k < s.size
  · have ih := hexFrom_len s (k + 1)
    rw [if_pos h]
    simp only [List.length_cons, ih]
    omega
  · rw [if_neg h]
    simp; omega
termination_by s.size - k
theorem Hex_size (s : ByteArray) : (Hex s).size ≤ 8000 := by
  unfold Hex
  split
  · decide
  · rw [strOfNums_size, hexFrom_len]; omega
theorem evText_size {e : Event} (h : e.s1) : (evText e).size ≤ 8388608 := by
  obtain ⟨h1, h2, h3⟩ := h
  have := Hex_size e.a
  unfold evText
  repeat' split
  all_goals
    simp only [ByteArray.size_append, ByteArray.size_mk']
    simp
    try omega
set_option maxHeartbeats 2000000 in
set_option maxRecDepth 100000 in
theorem s_l16Text (e : Event) (w : World) (hs : e.s1) : Calls Try.prog 44 #[e.v] w fun r w' => r = .returned (.string (evText e)) ∧ Below w.heap.size w w' := by
  obtain ⟨h1, h2, h3⟩ := hs
  have hh := Hex_size e.a
  go_enter Try.func44, Try.ntmps44
  go_wp2_with (go_at_call 11; refine (s_Hex _ _ (by omega)).mono ?_; rintro e w' ⟨rfl, hb1⟩)
  all_goals (go_ret; exact ⟨ret_str (by unfold evText isE; first | (simp_all; done) | (simp_all; omega)), by repeat (first | exact Below.refl _ _ | refine below_trans ?_ (by assumption) | apply below_alloc | apply below_drewN | apply below_drew)⟩)
set_option maxHeartbeats 2000000 in
set_option maxRecDepth 100000 in
theorem i_eventText (e : Event) (w : World) (hs : e.s1) : Calls Try.prog 47 #[e.v] w fun r w' => r = .returned (.string (evText e)) ∧ Below w.heap.size w w' := by
  obtain ⟨h1, h2, h3⟩ := hs
  have hh := Hex_size e.a
  go_enter Try.func47, Try.ntmps47
  go_wp2_with (go_at_call 12; refine (i_Hex _ _ (by omega)).mono ?_; rintro e w' ⟨rfl, hb1⟩)
  all_goals (go_ret; exact ⟨ret_str (by unfold evText isE; first | (simp_all; done) | (simp_all; omega)), by repeat (first | exact Below.refl _ _ | refine below_trans ?_ (by assumption) | apply below_alloc | apply below_drewN | apply below_drew)⟩)
def idxE : List Event → Nat → Int
  | [], _ => -1
  | x :: xs, k => if EventRight x then idxE xs (k + 1) else (k : Int)
theorem idxE_all : ∀ (xs : List Event) (k : Nat), decide (0 ≤ idxE xs k) = !(xs.all EventRight)
  | [], _ => rfl
  | x :: xs, k => by
    have ih := idxE_all xs (k + 1)
    unfold idxE
    by_cases h : EventRight x = true
    · rw [if_pos h, ih]; simp [h]
    · rw [if_neg h]; simp [h]
def allE (xs : List Event) : Bool := xs.all EventRight
def areE (xs : List Event) : Bool := decide (xs.length ≤ 60) && allE xs
def All1 (xs : List Event) : Prop := ∀ (k : Nat) (x : Event), xs[k]? = some x → x.s1
set_option maxRecDepth 100000 in
theorem areE1_calls (e : Event) (w : World) (hs : e.strs) : Calls Try.prog 65 #[e.v] w fun r w' => r = .returned (.bool (!EventRight e)) ∧ Below w.heap.size w w' := by
  have HS := Lib.hid hs; clear hs
  go_enter Try.func65, Try.ntmps65
  go_wp2_with (go_at_call 18; refine (i_EventRight _ _ HS.out).mono ?_; rintro e w' ⟨rfl, hb1⟩)
  all_goals (go_ret; exact ⟨rfl, by repeat (first | exact Below.refl _ _ | refine below_trans ?_ (by assumption) | apply below_alloc | apply below_drewN | apply below_drew)⟩)
set_option maxHeartbeats 1000000 in
set_option maxRecDepth 100000 in
theorem idxE_calls (xs : List Event) (v : Value) (w : World) (hv : Rows Event.cs 4 w v xs) (hs : All1 xs) :
    Calls Try.prog 70 #[v, .func (.func 65) #[] #[]] w fun e w' => e = .returned (.int .i64 (idxE xs 0)) ∧ Below w.heap.size w w' := by
  obtain ⟨A, c, rfl, hc, h63, hrow⟩ := hv
  have HW := Lib.hid hrow; have HS := Lib.hid hs; clear hrow hs
  go_enter Try.func70, Try.ntmps70
  go_wp2
  go_loopw [8] (fun i w' => ∃ k : Nat, k ≤ xs.length ∧ i = .int .i64 k ∧ idxE (xs.drop k) k = idxE xs 0 ∧ Below w.heap.size w w') (fun i _ => xs.length - (intOf i).toNat)
  case atStart => exact ⟨0, Nat.zero_le _, rfl, rfl, Below.refl _ _⟩
  case round =>
    obtain ⟨k, hk, rfl, hr, hb⟩ := hrel
    have HB := Lib.hid hb; clear hb
    by_cases hlt : k < xs.length
    · obtain ⟨x, hx, hd⟩ := split_at hlt
      obtain ⟨ad, rfl, hcell⟩ := HW.out k x hx
      have HX := Lib.hid (HS.out k x hx).strs
      rw [hd, idxE] at hr
      have HR := Lib.hid hr; clear hr hx hd
      obtain ⟨c0, c1, c2, c3⟩ := (hcell.below HB.out).four
      clear hcell
      by_cases h0 : EventRight x = true
      · have HQ := Lib.hid (show (!EventRight x) = false by simp [h0])
        rw [if_pos h0] at HR; clear h0
        go_wp2_with (go_at_call 65; refine (areE1_calls _ _ HX.out).mono ?_; rintro e w1 ⟨rfl, hb1⟩; rw [HQ.out])
        go_roundw
        case rel => exact ⟨k + 1, by omega, by go_num, HR.out, below_trans HB.out hb1⟩
        case measure => simp [intOf]; omega
      · have HQ := Lib.hid (show (!EventRight x) = true by simp [h0])
        rw [if_neg h0] at HR; clear h0
        go_wp2_with (go_at_call 65; refine (areE1_calls _ _ HX.out).mono ?_; rintro e w1 ⟨rfl, hb1⟩; rw [HQ.out])
        go_ret
        exact ⟨ret_int HR.out, below_trans HB.out hb1⟩
    · have hd : xs.drop k = [] := List.drop_of_length_le (by omega)
      rw [hd, idxE] at hr
      have HR := Lib.hid hr; clear hr hd
      go_wp2
      go_ret
      exact ⟨ret_int HR.out, HB.out⟩
theorem hasE_calls (xs : List Event) (v : Value) (w : World) (hv : Rows Event.cs 4 w v xs) (hs : All1 xs) :
    Calls Try.prog 64 #[v, .func (.func 65) #[] #[]] w fun e w' => e = .returned (.bool (!allE xs)) ∧ Below w.heap.size w w' := by
  have HE := Lib.hid (idxE_all xs 0)
  have HV := Lib.hid hv; have HS := Lib.hid hs; clear hv hs
  go_enter Try.func64, Try.ntmps64
  go_wp2_with (go_at_call 70; refine (idxE_calls _ _ _ HV.out HS.out).mono ?_; rintro e w' ⟨rfl, hb1⟩)
  go_ret
  exact ⟨ret_bool HE.out, hb1⟩
theorem areE_calls (xs : List Event) (v : Value) (w : World) (hv : Rows Event.cs 4 w v xs) (hs : All1 xs) :
    Calls Try.prog 45 #[v] w fun e w' => e = .returned (.bool (areE xs)) ∧ Below w.heap.size w w' := by
  have HV := Lib.hid hv; have HS := Lib.hid hs; clear hs
  obtain ⟨A, c, rfl, hc, h63, _⟩ := hv
  by_cases h0 : xs.length ≤ 60
  · have HF := Lib.hid (show allE xs = areE xs by simp [areE, h0])
    go_enter Try.func45, Try.ntmps45
    go_wp2_with (go_at_call 64; refine (hasE_calls _ _ _ HV.out HS.out).mono ?_; rintro e w' ⟨rfl, hb1⟩)
    go_ret
    exact ⟨ret_bool (by simpa using HF.out), hb1⟩
  · have HF := Lib.hid (show false = areE xs by simp [areE, h0])
    go_enter Try.func45, Try.ntmps45
    go_wp2_with fail
    go_ret
    exact ⟨ret_bool HF.out, Below.refl _ _⟩
end Go.Proofs.Ytfhoiagecicleaa.T
