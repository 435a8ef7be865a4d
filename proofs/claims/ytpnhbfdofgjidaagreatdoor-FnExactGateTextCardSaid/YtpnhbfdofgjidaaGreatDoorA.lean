/- The plain functions that the small checks of package impl and spec compute, and their walks: numbers and names. -/
import Derived.Test.YtpnhbfdofgjidaaGreatDoorProg
import Derived.Test.YtpnhbfdofgjidaaGreatDoorW
namespace Go.Proofs.YtpnhbfdofgjidaaGreatDoor.T
open Go.RowKit
def within (n low high : Int) : Bool := decide (low ≤ n ∧ n ≤ high)
def isGreat (b : Int) : Bool := decide (65 ≤ b ∧ b ≤ 90)
def isDigit (b : Int) : Bool := decide (48 ≤ b ∧ b ≤ 57)
def isQty (n : Int) : Bool := within n 1 1000000
theorem within_calls (n low high : Int) (w : World) :
    Calls Tryz.prog 61 #[.int .i64 n, .int .i64 low, .int .i64 high] w fun e w' => e = .returned (.bool (within n low high)) ∧ w = w' := by
  unfold within
  go_enter Tryz.func61, Tryz.ntmps61
  go_wp2
  all_goals (go_ret; exact ⟨ret_bool (by simp; omega), rfl⟩)
theorem within_q (n low high : Int) (w : World) {m : Nat} : Calls Tryz.prog 61 #[.int .i64 n, .int .i64 low, .int .i64 high] (w.drewN m) fun e w' => e = .returned (.bool (within n low high)) ∧ ∃ m, w' = w.drewN m :=
  (within_calls n low high _).mono fun _ _ h => ⟨h.1, m, h.2.symm⟩
theorem isGreat_calls (n : Int) (w : World) :
    Calls Tryz.prog 99 #[.int .u8 n] w fun e w' => e = .returned (.bool (isGreat n)) ∧ w = w' := by
  unfold isGreat
  go_enter Tryz.func99, Tryz.ntmps99
  go_wp2
  all_goals (go_ret; exact ⟨ret_bool (by simp; omega), rfl⟩)
theorem isDigit_calls (n : Int) (w : World) :
    Calls Tryz.prog 100 #[.int .u8 n] w fun e w' => e = .returned (.bool (isDigit n)) ∧ w = w' := by
  unfold isDigit
  go_enter Tryz.func100, Tryz.ntmps100
  go_wp2
  all_goals (go_ret; exact ⟨ret_bool (by simp; omega), rfl⟩)
theorem isQty_calls (n : Int) (w : World) :
    Calls Tryz.prog 127 #[.int .i64 n] w fun e w' => e = .returned (.bool (isQty n)) ∧ w = w' := by
  go_enter Tryz.func127, Tryz.ntmps127
  go_wp2_with (go_at_call 61; refine (within_calls _ _ _ _).mono ?_; rintro e w' ⟨rfl, rfl⟩)
  go_ret
  exact ⟨rfl, rfl⟩
theorem s_qty_calls (n : Int) (w : World) :
    Calls Tryz.prog 126 #[.int .i64 n] w fun e w' => e = .returned (.bool (isQty n)) ∧ w = w' := by
  unfold isQty within
  go_enter Tryz.func126, Tryz.ntmps126
  go_wp2
  all_goals (go_ret; exact ⟨ret_bool (by simp; omega), rfl⟩)
def okN (s : ByteArray) (i : Nat) : Bool := decide (isGreat (bt s i) = true ∨ (i ≠ 0 ∧ (isDigit (bt s i) = true ∨ bt s i = 45)))
def namesFrom (s : ByteArray) (i : Nat) : Bool := if i < s.size then okN s i && namesFrom s (i+1) else true
termination_by s.size - i
def isName (s : ByteArray) : Bool := namesFrom s 0 && within s.size 1 12
set_option maxHeartbeats 400000 in
set_option maxRecDepth 100000 in
theorem isName_calls (s : ByteArray) (w : World) (hs : s.size ≤ 140737488351232) :
    Calls Tryz.prog 60 #[.string s] w fun e w' => e = .returned (.bool (isName s)) ∧ w = w' := by
  go_enter Tryz.func60, Tryz.ntmps60
  go_wp2
  go_loop [6] (fun i => ∃ k : Nat, k ≤ s.size ∧ i = .int .i64 k ∧ (namesFrom s k && within s.size 1 12) = isName s) (fun i => s.size - (intOf i).toNat)
  case atStart => exact ⟨0, Nat.zero_le _, rfl, rfl⟩
  case round =>
    obtain ⟨k, hk, rfl, hr⟩ := hrel
    rw [namesFrom] at hr
    by_cases hlt : k < s.size
    · rw [if_pos hlt] at hr
      have H := Lib.hid hr; clear hr
      have hb := bt_at hlt
      go_wp2_with (first | (go_at_call 99; refine (isGreat_calls _ _).mono ?_; rintro e w' ⟨rfl, rfl⟩) | (go_at_call 100; refine (isDigit_calls _ _).mono ?_; rintro e w' ⟨rfl, rfl⟩))
      all_goals
        first
        | (have e : okN s k = true := by (simp_all [okN]; done)
           go_round
           case rel => exact ⟨k + 1, by omega, by go_num, by simpa [e] using H.out⟩
           case measure => simp [intOf]; omega)
        | (have e : okN s k = false := by (simp_all [okN]; done)
           go_ret; exact ⟨ret_bool (by simpa [e] using H.out), rfl⟩)
    · rw [if_neg hlt] at hr
      have H := Lib.hid hr; clear hr
      go_wp2_with (go_at_call 61; refine (within_calls _ _ _ _).mono ?_; rintro e w' ⟨rfl, rfl⟩)
      go_ret
      exact ⟨ret_bool (by simpa using H.out), rfl⟩
theorem isName_q (s : ByteArray) (w : World) (hs : s.size ≤ 140737488351232) {n : Nat} : Calls Tryz.prog 60 #[.string s] (w.drewN n) fun e w' => e = .returned (.bool (isName s)) ∧ ∃ m, w' = w.drewN m :=
  (isName_calls s _ hs).mono fun _ _ h => ⟨h.1, n, h.2.symm⟩
def okS (s : ByteArray) (i : Nat) : Bool := decide ((65 ≤ bt s i ∧ bt s i ≤ 90) ∨ (48 ≤ bt s i ∧ bt s i ≤ 57) ∨ bt s i = 45)
def snamesFrom (s : ByteArray) (i : Nat) : Bool := if i < s.size then okS s i && snamesFrom s (i+1) else true
termination_by s.size - i
theorem snames_eq (s : ByteArray) (d : Nat) : ∀ i, s.size - i = d → 0 < i → snamesFrom s i = namesFrom s i := by
  induction d with
  | zero => intro i h h0; rw [snamesFrom, namesFrom, if_neg (by omega), if_neg (by omega)]
  | succ d ih =>
    intro i h h0
    rw [snamesFrom, namesFrom, if_pos (by omega), if_pos (by omega), ih (i+1) (by omega) (by omega)]
    have : okS s i = okN s i := by simp only [okS, okN, isGreat, isDigit, decide_eq_true_eq]; exact decide_eq_decide.2 (by omega)
    rw [this]
theorem sname_eq (s : ByteArray) : isName s = (within s.size 1 12 && isGreat (bt s 0) && snamesFrom s 0) := by
  unfold isName
  by_cases h : 0 < s.size
  · rw [namesFrom, snamesFrom, if_pos h, if_pos h, snames_eq s _ 1 rfl (by omega)]
    by_cases hg : isGreat (bt s 0) = true
    · have e1 : okN s 0 = true := by simp [okN, hg]
      have e2 : okS s 0 = true := by simp only [isGreat, decide_eq_true_eq] at hg; simp only [okS, decide_eq_true_eq]; omega
      rw [e1, e2, hg]; cases within s.size 1 12 <;> cases namesFrom s 1 <;> rfl
    · have e1 : okN s 0 = false := by simp [okN, hg]
      simp [e1, hg]
  · have : within s.size 1 12 = false := by simp [within]; omega
    simp [this]
set_option maxHeartbeats 400000 in
set_option maxRecDepth 100000 in
theorem s_name_calls (s : ByteArray) (w : World) (hs : s.size ≤ 140737488351232) :
    Calls Tryz.prog 54 #[.string s] w fun e w' => e = .returned (.bool (isName s)) ∧ w = w' := by
  have HE := Lib.hid (sname_eq s)
  by_cases h0 : 0 < s.size
  · have hb := bt_at h0
    by_cases h12 : s.size ≤ 12
    · by_cases hg : isGreat (bt s 0) = true
      · have hw : within s.size 1 12 = true := by simp [within]; omega
        have HF := Lib.hid (show snamesFrom s 0 = isName s by rw [HE.out, hg, hw]; rfl)
        have hg' : 65 ≤ bt s 0 ∧ bt s 0 ≤ 90 := by simpa [isGreat] using hg
        obtain ⟨g1, g2⟩ := hg'
        clear hw hg
        go_enter Tryz.func54, Tryz.ntmps54
        go_wp2
        go_loop [3] (fun i => ∃ k : Nat, k ≤ s.size ∧ i = .int .i64 k ∧ snamesFrom s k = isName s) (fun i => s.size - (intOf i).toNat)
        case atStart => exact ⟨0, Nat.zero_le _, rfl, HF.out⟩
        case round =>
          obtain ⟨k, hk, rfl, hr⟩ := hrel
          rw [snamesFrom] at hr
          clear hb
          by_cases hlt : k < s.size
          · rw [if_pos hlt] at hr
            have H := Lib.hid hr; clear hr
            have hb := bt_at hlt
            go_wp2
            all_goals
              first
              | (have e : okS s k = true := by (simp only [okS, decide_eq_true_eq]; first | omega | (simp_all; done) | (simp_all; omega))
                 go_round
                 case rel => exact ⟨k + 1, by omega, by go_num, by simpa [e] using H.out⟩
                 case measure => simp [intOf]; omega)
              | (have e : okS s k = false := by (simp only [okS, decide_eq_false_iff_not]; first | omega | (simp_all; done) | (simp_all; omega))
                 go_ret; exact ⟨ret_bool (by simpa [e] using H.out), rfl⟩)
          · rw [if_neg hlt] at hr
            have H := Lib.hid hr; clear hr
            go_wp2
            go_ret
            exact ⟨ret_bool H.out, rfl⟩
      · have hf : isName s = false := by rw [HE.out]; simp [hg]
        have HF := Lib.hid hf; clear hf
        have hg' : ¬ (65 ≤ bt s 0 ∧ bt s 0 ≤ 90) := by simpa [isGreat] using hg
        clear hg
        by_cases g1 : bt s 0 < 65
        · go_enter Tryz.func54, Tryz.ntmps54
          go_wp2
          all_goals (go_ret; exact ⟨ret_bool HF.out.symm, rfl⟩)
        · have g2 : 90 < bt s 0 := by omega
          go_enter Tryz.func54, Tryz.ntmps54
          go_wp2
          all_goals (go_ret; exact ⟨ret_bool HF.out.symm, rfl⟩)
    · have hf : isName s = false := by rw [HE.out]; have : within s.size 1 12 = false := by { simp [within]; omega }; simp [this]
      have HF := Lib.hid hf; clear hf
      go_enter Tryz.func54, Tryz.ntmps54
      go_wp2
      all_goals (go_ret; exact ⟨ret_bool HF.out.symm, rfl⟩)
  · have hf : isName s = false := by rw [HE.out]; have : within s.size 1 12 = false := by { simp [within]; omega }; simp [this]
    have HF := Lib.hid hf; clear hf
    go_enter Tryz.func54, Tryz.ntmps54
    go_wp2
    all_goals (go_ret; exact ⟨ret_bool HF.out.symm, rfl⟩)
theorem s_name_q (s : ByteArray) (w : World) (hs : s.size ≤ 140737488351232) {n : Nat} : Calls Tryz.prog 54 #[.string s] (w.drewN n) fun e w' => e = .returned (.bool (isName s)) ∧ ∃ m, w' = w.drewN m :=
  (s_name_calls s _ hs).mono fun _ _ h => ⟨h.1, n, h.2.symm⟩
end Go.Proofs.YtpnhbfdofgjidaaGreatDoor.T
