/- l01Dec of spec: the decimal numeral of a whole number (the library's own word: Lib.itoa). -/
import Derived.Test.YtpnhbfdofgjidaaGreatDoorProg
import Derived.Test.YtpnhbfdofgjidaaGreatDoorW3
import Derived.Lib.ItoaNum
import Derived.Lib.ConvBytes
namespace Go.Proofs.YtpnhbfdofgjidaaGreatDoor.T
open Go.RowKit
def dec (n : Int) : ByteArray := ⟨(Lib.itoa n).toArray⟩
theorem dd_small {u : Nat} (h : u < 10) : Lib.decDigits u = [UInt8.ofNat (48 + u)] := by rw [Lib.decDigits, dif_pos h]
theorem dd_big {u : Nat} (h : ¬ u < 10) : Lib.decDigits u = Lib.decDigits (u / 10) ++ [UInt8.ofNat (48 + u % 10)] := by rw [Lib.decDigits, dif_neg h]
def ddPre (m : Nat) : List UInt8 := if m = 0 then [] else Lib.decDigits m
theorem ddPre_step {m : Nat} (h : m ≠ 0) : ddPre m = ddPre (m / 10) ++ [UInt8.ofNat (48 + m % 10)] := by
  unfold ddPre
  rw [if_neg h]
  by_cases h1 : m < 10
  · rw [dd_small h1, if_pos (by omega), Nat.mod_eq_of_lt h1]; rfl
  · rw [dd_big h1, if_neg (by omega)]
theorem dd_len : ∀ (k u : Nat), u < 10 ^ (k + 1) → (Lib.decDigits u).length ≤ k + 1
  | 0, u, h => by rw [dd_small (by simpa using h)]; simp
  | k + 1, u, h => by
    by_cases h1 : u < 10
    · rw [dd_small h1]; simp
    · rw [dd_big h1]
      have := dd_len k (u / 10) (by rw [Nat.pow_succ] at h; omega)
      simp; omega
theorem dec_size {n : Int} (h0 : -9223372036854775808 ≤ n) (h1 : n ≤ 9223372036854775807) : (dec n).size ≤ 20 := by
  show (Lib.itoa n).toArray.size ≤ 20
  unfold Lib.itoa
  have a := dd_len 18 n.natAbs (by omega)
  have b := dd_len 18 n.toNat (by omega)
  split <;> simp <;> omega
theorem dec_pos (n : Int) : 1 ≤ (dec n).size := by
  show 1 ≤ (Lib.itoa n).toArray.size
  unfold Lib.itoa
  have : 1 ≤ (Lib.decDigits n.toNat).length := by
    rw [Lib.decDigits]; split <;> simp
  split <;> simp <;> omega
theorem ulU8b : Tryz.prog.underlying 5 = some (.int .u8) := by kernel_rfl
theorem ulStrb : Tryz.prog.underlying 9 = some .string := by kernel_rfl
theorem ulS8b : Tryz.prog.underlying 93 = some (.slice 5) := by kernel_rfl
/-- string([]byte{x}) -/
theorem conv1 (w : World) (x : Int) : (convert 93 9 (.slice (some ⟨w.heap.size, 0, none⟩) 1 1)).run Tryz.prog (w.alloc (.cells #[.int .u8 x] 5)) = .ok (.string (strOfNums [x])) (w.alloc (.cells #[.int .u8 x] 5)) :=
  run_convert_bytes_arg _ 93 5 ulS8b ulU8b _ 0 1 1 [x] rfl (fun i hi => by
    have h0 : i = 0 := by omega
    subst h0
    simp) _ ulStrb
theorem dd_step {m : Nat} (h : m ≠ 0) {s : ByteArray} {l : List UInt8} (hr : ddPre m ++ s.data.toList = l) : ddPre (m / 10) ++ (strOfNums [48 + ((m % 10 : Nat) : Int)] ++ s).data.toList = l := by
  have e : UInt8.ofNat ((48 : Int) + ((m % 10 : Nat) : Int)).toNat = UInt8.ofNat (48 + m % 10) := by congr 1
  rw [← hr, ddPre_step h, ByteArray.data_append, Array.toList_append, strOfNums_data, List.map_cons, List.map_nil, e, List.append_assoc]
theorem cat_one {x : Int} {s : ByteArray} (h : s.size ≤ 20) : (9223372036854775807 < (strOfNums [x]).size + s.size) = False := eq_false (by
  rw [strOfNums_size]; simp; omega)
theorem dd_bound {m m0 : Nat} {s : ByteArray} (hr : ddPre m ++ s.data.toList = ddPre m0) (hm0 : m0 < 10 ^ 19) : s.size ≤ 20 := by
  have h1 := congrArg List.length hr
  have h2 : (ddPre m0).length ≤ 20 := by
    unfold ddPre
    split
    · simp
    · have := dd_len 18 m0 hm0
      omega
  have h3 : s.data.toList.length = s.size := Array.length_toList
  rw [List.length_append, h3] at h1
  omega
set_option maxHeartbeats 2000000 in
set_option maxRecDepth 100000 in
theorem s_l01Dec (n : Int) (w : World) (h0 : -9223372036854775808 ≤ n) (h1 : n ≤ 9223372036854775807) : Calls Tryz.prog 19 #[.int .i64 n] w fun e w' => e = .returned (.string (dec n)) ∧ Below w.heap.size w w' := by
  by_cases hz : n = 0
  · subst hz
    go_enter Tryz.func19, Tryz.ntmps19
    go_wp2
    go_ret
    exact ⟨ret_str (by decide +kernel), Below.refl _ _⟩
  · by_cases hn : n < 0
    · obtain ⟨m0, rfl⟩ : ∃ m : Nat, n = -(m : Int) := ⟨(-n).toNat, by omega⟩
      have HF := Lib.hid (show dec (-(m0 : Int)) = ⟨(45 :: ddPre m0).toArray⟩ by unfold dec Lib.itoa ddPre; rw [if_pos hn, if_neg (by omega)]; simp)
      have hnd : decide (0 < m0) = true := decide_eq_true (by omega)
      have hz' : (-(m0 : Int) == 0) = false := by simpa using hz
      clear hn hz
      go_enter Tryz.func19, Tryz.ntmps19
      go_wp2
      go_loopw [0, 4, 5] (fun i o _ w' => ∃ (m : Nat) (s : ByteArray), m ≤ m0 ∧ i = .int .i64 (-(m : Int)) ∧ o = .string s ∧ s.size ≤ 20 ∧ ddPre m ++ s.data.toList = ddPre m0 ∧ Below w.heap.size w w') (fun i _ _ _ => (intOf i).natAbs)
      case atStart => exact ⟨m0, ⟨#[]⟩, Nat.le_refl _, rfl, rfl, by decide, by simp, Below.refl _ _⟩
      case round =>
        obtain ⟨m, s, hm, rfl, rfl, hs, hr, hb⟩ := hrel
        have HR := Lib.hid hr; have HB := Lib.hid hb; clear hr hb
        by_cases hm0 : m = 0
        · subst hm0
          go_wp2
          go_ret
          exact ⟨ret_str (by rw [HF.out, ← HR.out]; exact ByteArray.ext (by simp [ddPre])), HB.out⟩
        · have hm1 : 0 < m := by omega
          have HS := Lib.hid (dd_step hm0 HR.out)
          have HT := Lib.hid (dd_bound HS.out (by omega))
          by_cases hd : m % 10 = 0
          · have hd1 : decide (0 < (m : Int) % 10) = false := decide_eq_false (by omega)
            have hc := conv1 wr (48 + -((m : Int) % 10))
            have hsz := cat_one (x := 48 + -((m : Int) % 10)) hs
            have HD := Lib.hid hd; clear hd
            go_wp2
            go_roundw
            case rel => exact ⟨m / 10, strOfNums [48 + ((m % 10 : Nat) : Int)] ++ s, by omega, by go_num, by rw [HD.out]; have h := HD.out; rw [show (48 : Int) + -((m : Int) % 10) = 48 + ((0 : Nat) : Int) by omega], HT.out, HS.out, below_alloc HB.out _⟩
            case measure => simp [intOf]; omega
          · have hd1 : decide (0 < (m : Int) % 10) = true := decide_eq_true (by omega)
            have hc := conv1 wr (48 + (m : Int) % 10)
            have hsz := cat_one (x := 48 + (m : Int) % 10) hs
            have HD := Lib.hid hd; clear hd
            go_wp2
            go_roundw
            case rel => exact ⟨m / 10, strOfNums [48 + ((m % 10 : Nat) : Int)] ++ s, by omega, by go_num, by first | rfl | simp, HT.out, HS.out, below_alloc HB.out _⟩
            case measure => simp [intOf]; omega
    · obtain ⟨m0, rfl⟩ : ∃ m : Nat, n = m := ⟨n.toNat, by omega⟩
      have HF := Lib.hid (show dec m0 = ⟨(ddPre m0).toArray⟩ by unfold dec Lib.itoa ddPre; rw [if_neg (by omega), if_neg (by omega)]; simp)
      have hnd : decide ((m0 : Int) < 0) = false := decide_eq_false hn
      have hz' : ((m0 : Int) == 0) = false := by simpa using hz
      clear hn hz
      go_enter Tryz.func19, Tryz.ntmps19
      go_wp2
      go_loopw [0, 4] (fun i o w' => ∃ (m : Nat) (s : ByteArray), m ≤ m0 ∧ i = .int .i64 m ∧ o = .string s ∧ s.size ≤ 20 ∧ ddPre m ++ s.data.toList = ddPre m0 ∧ Below w.heap.size w w') (fun i _ _ => (intOf i).toNat)
      case atStart => exact ⟨m0, ⟨#[]⟩, Nat.le_refl _, rfl, rfl, by decide, by simp, Below.refl _ _⟩
      case round =>
        obtain ⟨m, s, hm, rfl, rfl, hs, hr, hb⟩ := hrel
        have HR := Lib.hid hr; have HB := Lib.hid hb; clear hr hb
        by_cases hm0 : m = 0
        · subst hm0
          go_wp2
          go_ret
          exact ⟨ret_str (by rw [HF.out, ← HR.out]; simp [ddPre]), HB.out⟩
        · have hm1 : 0 < m := by omega
          have hc := conv1 wr (48 + (m : Int) % 10)
          have HS := Lib.hid (dd_step hm0 HR.out)
          have HT := Lib.hid (dd_bound HS.out (by omega))
          have hsz := cat_one (x := 48 + (m : Int) % 10) hs
          go_wp2
          go_roundw
          case rel => exact ⟨m / 10, strOfNums [48 + ((m % 10 : Nat) : Int)] ++ s, by omega, by go_num, by first | rfl | simp, HT.out, HS.out, below_alloc HB.out _⟩
          case measure => simp [intOf]; omega
end Go.Proofs.YtpnhbfdofgjidaaGreatDoor.T
