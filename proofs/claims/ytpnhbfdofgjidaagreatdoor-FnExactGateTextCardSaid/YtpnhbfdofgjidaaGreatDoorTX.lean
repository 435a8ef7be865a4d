/- Texts: decimal and said of impl (the library's FormatInt and Join by their contracts), rows of texts that the call lays. -/
import Derived.Test.YtpnhbfdofgjidaaGreatDoorDC
import Derived.Test.YtpnhbfdofgjidaaGreatDoorW4
import Derived.Test.YtpnhbfdofgjidaaGreatDoorSH
import Derived.Deep.RegionHeld3
import Derived.Laws.Concat
namespace Go.Proofs.YtpnhbfdofgjidaaGreatDoor.T
open Go.RowKit
abbrev tSp : ByteArray := ⟨#[32]⟩
abbrev tNl : ByteArray := ⟨#[10]⟩
/-- the library's table of tens holds what its text lays -/
def Tab (w : World) : Prop := Lib.TabIs Tryz.prog w "internal/strconv.uint64pow10" .u64 Lib.pow10Tab
theorem tabName : ∃ g, Tryz.prog.globalNamed "internal/strconv.uint64pow10" = some g := Option.isSome_iff_exists.1 (by kernel_rfl)
theorem Tab.below {w w' : World} (h : Tab w) (hb : Below w.heap.size w w') : Tab w' := by
  obtain ⟨g, hg⟩ := tabName
  exact Go.Joins.tab_stays hg h hb (Nat.le_refl _)
theorem below_growN {w : World} {k : Nat} {os : Array Obj} : Below w.heap.size w (Go.Sort.grow (w.drewN k) os) :=
  ⟨rfl, rfl, rfl, by simp, fun _ hk => Go.Sort.heap_grow_old (w.drewN k) os hk⟩
theorem decimal_calls (n : Int) (w : World) (h0 : -9223372036854775808 ≤ n) (h1 : n ≤ 9223372036854775807) (ht : Tab w) :
    Calls Tryz.prog 43 #[.int .i64 n] w fun e w' => e = .returned (.string (dec n)) ∧ Below w.heap.size w w' := by
  have HT := Lib.hid ht; clear ht
  go_enter Tryz.func43, Tryz.ntmps43
  go_wp2_with (go_at_call 87; refine (Tryz.strconv_FormatInt_10 _ h0 h1 _ HT.out).mono ?_; rintro e w' ⟨rfl, k, os, rfl⟩)
  go_ret
  exact ⟨rfl, below_growN⟩
def txCs (s : ByteArray) : List Value := [.string s]
def joinS (xs : List ByteArray) : ByteArray := ⟨(Lib.join (xs.map (·.data.toList)) [32]).toArray⟩
theorem joinS_one (x : ByteArray) : joinS [x] = x := by
  unfold joinS
  rw [List.map_cons, List.map_nil, Lib.join_one]
theorem joinS_cons (x y : ByteArray) (r : List ByteArray) : joinS (x :: y :: r) = x ++ tSp ++ joinS (y :: r) := by
  unfold joinS Lib.join
  apply ByteArray.ext
  simp [List.intercalate]
theorem rowsT_lit {w : World} {xs : List ByteArray} {N T : Nat} {cs : Array Value} (hcs : cs = (xs.map Value.string).toArray) (hN : w.heap.size = N) (hx : xs.length ≤ 100) : Rows txCs 1 (w.alloc (.cells cs T)) (.slice (some ⟨N, 0, none⟩) xs.length xs.length) xs := by
  subst hN; subst hcs
  refine ⟨_, xs.length, rfl, Nat.le_refl _, by omega, fun j x hj => ⟨_, rfl, ?_⟩⟩
  rw [add_plain, Nat.mul_one]
  exact ⟨fun u hu => by simp [txCs] at hu; subst hu; simp [hj], fun i u hu => by simp [txCs] at hu⟩
set_option maxHeartbeats 1000000 in
theorem join_calls (xs : List ByteArray) (v : Value) (w : World) (hv : Rows txCs 1 w v xs) (hl : (joinS xs).size ≤ 140737488355328) (hn : xs.length ≤ 100) :
    Calls Tryz.prog 86 #[v, .string tSp] w fun e w' => e = .returned (.string (joinS xs)) ∧ Below w.heap.size w w' := by
  obtain ⟨A, c, rfl, hc, h63, hrow⟩ := hv
  cases xs with
  | nil => exact (Tryz.strings_Join_none A c tSp w).mono fun e w' h => ⟨h.1, h.2 ▸ Below.refl _ _⟩
  | cons x r =>
    obtain ⟨ad, rfl, hcell⟩ := hrow 0 x rfl
    obtain ⟨b, o, sp⟩ := ad
    have h0 := hcell.1 _ rfl
    rw [Nat.zero_mul] at h0
    have hsp : sp = none := by
      cases sp with
      | none => rfl
      | some s => simp [Addr.add, World.cell?] at h0; split at h0 <;> simp_all
    subst hsp
    have hlt : b < w.heap.size := by simpa [Addr.add] using World.block_lt_of_cell? w _ h0
    have := Tryz.strings_Join b o c (x :: r) tSp w (fun j y hj => by
      obtain ⟨ad, e, hcl⟩ := hrow j y hj
      obtain rfl := Option.some.inj e
      have h1 := hcl.1 _ rfl
      rw [Nat.mul_one] at h1
      rw [show (⟨b, o + j, none⟩ : Addr) = (⟨b, o, none⟩ : Addr).add j by unfold Addr.add; split <;> simp_all]
      exact h1) hlt (by omega) hc (by
      have e : (joinS (x :: r)).size = (Lib.join ((x :: r).map (·.data.toList)) tSp.data.toList).length := by unfold joinS; simp [ByteArray.size]
      omega)
    exact this
def saidF (xs : List ByteArray) : ByteArray := joinS xs ++ tNl
set_option maxHeartbeats 1000000 in
theorem said_calls (xs : List ByteArray) (v : Value) (w : World) (hv : Rows txCs 1 w v xs) (hl : (joinS xs).size ≤ 140737488355328) (hn : xs.length ≤ 100) :
    Calls Tryz.prog 42 #[v] w fun e w' => e = .returned (.string (saidF xs)) ∧ Below w.heap.size w w' := by
  have HV := Lib.hid hv; clear hv
  go_enter Tryz.func42, Tryz.ntmps42
  go_wp2_with (go_at_call 86; refine (join_calls _ _ _ HV.out hl hn).mono ?_; rintro e w' ⟨rfl, hb⟩)
  go_ret
  exact ⟨rfl, hb⟩
end Go.Proofs.YtpnhbfdofgjidaaGreatDoor.T
