/- The order of texts, plainly. No program in sight. -/
import Derived.Test.YtpnhbfdofgjidaaGreatDoorW
import Derived.Lib.Bytealg
namespace Go.Proofs.YtpnhbfdofgjidaaGreatDoor.T
open Go.RowKit
abbrev bl (a b : List UInt8) : Bool := Op.bytesLess a b
theorem bl_cons (a b : UInt8) (x y : List UInt8) : bl (a :: x) (b :: y) = (decide (a < b) || (a == b && bl x y)) := by
  simp only [bl, Op.bytesLess]
theorem u8_tri (a b : UInt8) : a < b ∨ a = b ∨ b < a := by
  rcases Nat.lt_trichotomy a.toNat b.toNat with h | h | h
  · exact .inl (UInt8.lt_iff_toNat_lt.2 h)
  · exact .inr (.inl (UInt8.toNat_inj.1 h))
  · exact .inr (.inr (UInt8.lt_iff_toNat_lt.2 h))
theorem u8_irr (a : UInt8) : ¬ a < a := fun h => Nat.lt_irrefl _ (UInt8.lt_iff_toNat_lt.1 h)
theorem u8_trans {a b c : UInt8} (h : a < b) (k : b < c) : a < c := UInt8.lt_iff_toNat_lt.2 (Nat.lt_trans (UInt8.lt_iff_toNat_lt.1 h) (UInt8.lt_iff_toNat_lt.1 k))
theorem bl_nil (a : List UInt8) : bl a [] = false := by cases a <;> rfl
theorem bl_irr : ∀ a : List UInt8, bl a a = false
  | [] => rfl
  | a :: x => by rw [bl_cons, bl_irr x]; simp
theorem bl_trans : ∀ {a b c : List UInt8}, bl a b = true → bl b c = true → bl a c = true
  | _, [], _, h, _ => by rw [bl_nil] at h; cases h
  | _, _ :: _, [], _, h => by rw [bl_nil] at h; cases h
  | [], _ :: _, _ :: _, _, _ => rfl
  | a :: x, b :: y, c :: z, h, k => by
    rw [bl_cons] at h k ⊢
    simp only [Bool.or_eq_true, decide_eq_true_eq, Bool.and_eq_true, beq_iff_eq] at h k ⊢
    rcases h with h | ⟨rfl, h⟩
    · rcases k with k | ⟨rfl, _⟩
      · exact .inl (u8_trans h k)
      · exact .inl h
    · rcases k with k | ⟨rfl, k⟩
      · exact .inl k
      · exact .inr ⟨rfl, bl_trans h k⟩
theorem bl_tri : ∀ (a b : List UInt8), bl a b = true ∨ a = b ∨ bl b a = true
  | [], [] => .inr (.inl rfl)
  | [], _ :: _ => .inl rfl
  | _ :: _, [] => .inr (.inr rfl)
  | a :: x, b :: y => by
    rw [bl_cons, bl_cons]
    simp only [Bool.or_eq_true, decide_eq_true_eq, Bool.and_eq_true, beq_iff_eq]
    rcases u8_tri a b with h | rfl | h
    · exact .inl (.inl h)
    · rcases bl_tri x y with h | rfl | h
      · exact .inl (.inr ⟨rfl, h⟩)
      · exact .inr (.inl rfl)
      · exact .inr (.inr (.inr ⟨rfl, h⟩))
    · exact .inr (.inr (.inl h))
theorem bl_asym {a b : List UInt8} (h : bl a b = true) : bl b a = false := by
  cases k : bl b a
  · rfl
  · have := bl_trans h k; rw [bl_irr] at this; cases this
theorem bl_ne {a b : List UInt8} (h : bl a b = true) : a ≠ b := fun e => by rw [e, bl_irr] at h; cases h
theorem compareBytes_bl : ∀ a b : List UInt8, Lib.compareBytes a b = if bl a b = true then -1 else if a = b then 0 else 1
  | [], [] => rfl
  | [], _ :: _ => rfl
  | _ :: _, [] => rfl
  | a :: x, b :: y => by
    rw [bl_cons, Lib.compareBytes, compareBytes_bl x y]
    rcases u8_tri a b with h | rfl | h
    · simp [h]
    · simp
    · have h1 : ¬ a < b := fun k => u8_irr _ (u8_trans h k)
      have h2 : a ≠ b := fun e => by rw [e] at h; exact u8_irr _ h
      simp [h, h1, h2]
theorem toList_data' (s : ByteArray) : s.data.toList = s.toList := (ByteArray.toList_eq (bs := s)).symm
end Go.Proofs.YtpnhbfdofgjidaaGreatDoor.T
