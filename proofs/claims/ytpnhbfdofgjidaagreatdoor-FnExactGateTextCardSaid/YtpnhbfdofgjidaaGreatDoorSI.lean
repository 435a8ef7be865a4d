/- The items of a Book, of impl: append, slices.Sort, slices.Compact. -/
import Derived.Test.YtpnhbfdofgjidaaGreatDoorSM
import Derived.Test.YtpnhbfdofgjidaaGreatDoorHB4
import Derived.Test.YtpnhbfdofgjidaaGreatDoorCL
import Derived.Test.YtpnhbfdofgjidaaGreatDoorAP
import Derived.Test.YtpnhbfdofgjidaaGreatDoorTX
import Derived.Test.YtpnhbfdofgjidaaGreatDoorSH
import Derived.Sort.OwnSorted
namespace Go.Proofs.YtpnhbfdofgjidaaGreatDoor.T
open Go.RowKit
open Go.Sort
abbrev nm (s : ByteArray) : List UInt8 := s.data.toList
def names (b : Book) : List (List UInt8) := b.stocks.map (fun x => nm x.item) ++ b.lines.map (fun x => nm x.item)
def itemsL (b : Book) : List (List UInt8) := uniq (names b)
def itemsB (b : Book) : List ByteArray := (itemsL b).map fun l => ⟨l.toArray⟩
theorem infoS : (Tryz.prog.info? 9).map (fun i => (i.zero, i.size, i.bytes)) = some (some (.string ByteArray.empty), 1, 16) := by kernel_rfl
theorem itemsB_cells (b : Book) : (itemsB b).flatMap txCs = (itemsL b).map encStr := by
  unfold itemsB
  rw [List.flatMap_map]
  generalize itemsL b = xs
  induction xs with
  | nil => rfl
  | cons x xs ih => rw [List.flatMap_cons, List.map_cons, ih]; rfl
theorem own_take {w : World} {base n g cap : Nat} {e : TypeId} {xs : List Value} {k : Nat} (h : w.ownsRow base e 1 (.slice (some ⟨g, 0, none⟩) n cap) n xs) (hk : k ≤ n) : w.ownsRow base e 1 (.slice (some ⟨g, 0, none⟩) k cap) k (xs.take k) := by
  obtain ⟨h1, h2⟩ := h
  rcases h2 with ⟨h2, _⟩ | ⟨g', cap', cur, hv, hg, hh, hc, h63, hs, ht⟩
  · cases h2
  · cases hv
    refine ⟨by simp at h1 ⊢; omega, .inr ⟨g, cap, cur, rfl, hg, hh, by omega, h63, hs, ?_⟩⟩
    rw [← ht, List.take_take]
    congr 1
    omega
theorem enc_nm (s : ByteArray) : encStr (nm s) = .string s := rfl
theorem names_len {b : Book} (hr : BookRight b = true) : (names b).length ≤ 300 := by
  have h1 := (BookRight_stocks hr).1
  have h2 := LinesRight_len (BookRight_lines hr)
  unfold names
  rw [List.length_append, List.length_map, List.length_map]
  omega
/-- slices.Sort, slices.Compact on a row of one's own -/
theorem sort_own {w : World} {base : Nat} {v : Value} {ss : List (List UInt8)} (ho : w.ownsRow base 9 1 v ss.length (ss.map encStr)) (hl : ss.length ≤ 1000000) (hB : base ≤ w.heap.size) :
    Calls Tryz.prog 103 #[v] w fun e w' => e = .returned (.tuple #[]) ∧ w'.ownsRow base 9 1 v ss.length ((ss.mergeSort fun x y => decide (x ≤ y)).map encStr) ∧ Below base w w' := by
  rcases ho.2 with ⟨rfl, h0⟩ | ⟨g, cap, cur, rfl, hg, hh, hc, h63, hs, ht⟩
  · refine (Tryz.slices_Sort_string_none none 0 w).mono ?_
    rintro e w' ⟨rfl, rfl⟩
    obtain rfl := List.eq_nil_of_length_eq_zero h0
    exact ⟨rfl, by simpa using ho, (Below.refl _ _).mono hB⟩
  · refine (Tryz.slices_Sort_string g 0 cap ss w (holds_of_block hh (by simpa using ht)) (Array.getElem?_eq_some_iff.1 hh).1 (by omega)).mono ?_
    rintro e w' ⟨rfl, n, os, rfl⟩
    exact ⟨rfl, ownsRow_sorted (by simp) hg hh hc h63 hs, (Below.refl base w).grown (grownBy_sorted _) hB (fun b hb => by simp at hb; omega)⟩
theorem compact_own {w : World} {base : Nat} {v : Value} {zs : List (List UInt8)} (ho : w.ownsRow base 9 1 v zs.length (zs.map encStr)) (hl : zs.length ≤ 1000000) (hB : base ≤ w.heap.size) :
    Calls Tryz.prog 104 #[v] w fun e w' => ∃ v', e = .returned v' ∧ w'.ownsRow base 9 1 v' (Lib.compact zs).length ((Lib.compact zs).map encStr) ∧ Below base w w' := by
  rcases ho.2 with ⟨rfl, h0⟩ | ⟨g, cap, cur, rfl, hg, hh, hc, h63, hs, ht⟩
  · refine (Tryz.slices_Compact_string_empty none 0 w).mono ?_
    rintro e w' ⟨rfl, rfl⟩
    obtain rfl := List.eq_nil_of_length_eq_zero h0
    exact ⟨_, rfl, by simpa [Lib.compact, Lib.compactUpTo] using ho, (Below.refl _ _).mono hB⟩
  · have hle := Lib.compact_length_le zs
    refine (Tryz.slices_Compact_string g 0 cap zs w (holds_of_block hh (by simpa using ht)) (by omega) hc).mono ?_
    rintro e w' ⟨rfl, n, rfl⟩
    have h1 := ownsRow_sorted (n := n) (os := #[]) (ss := zs) (ts := Lib.compact zs ++ List.replicate (zs.length - (Lib.compact zs).length) []) (by simp; omega) hg hh hc h63 hs
    rw [grow_empty] at h1
    have h2 := own_take h1 hle
    refine ⟨_, rfl, ?_, ?_⟩
    · rw [List.map_append, List.take_append_of_le_length (by simp), List.take_of_length_le (by simp)] at h2
      exact h2
    · have h3 := grownBy_sorted (w := w) (g := g) (n := n) (os := #[]) (Lib.compact zs ++ List.replicate (zs.length - (Lib.compact zs).length) []).toArray
      rw [grow_empty] at h3
      exact (Below.refl base w).grown h3 hB (fun b hb => by simp at hb; omega)
theorem srt_len (xs : List (List UInt8)) : (xs.mergeSort fun x y => decide (x ≤ y)).length = xs.length := by simp
set_option maxHeartbeats 4000000 in
set_option maxRecDepth 100000 in
theorem i_items (b : Book) (g : Nat) {fo : Nat} (vs vl : Value) (w : World) (hg0 : w.cell? ⟨g, fo, none⟩ = some vs) (hg1 : w.cell? ⟨g, fo + 1, none⟩ = some vl) (hvs : Rows Stock.cs 2 w vs b.stocks) (hvl : Rows OrderLine.cs 8 w vl b.lines) (hb : BookRight b = true) :
    Calls Tryz.prog 63 #[.pointer (some ⟨g, fo, none⟩)] w fun e w' => ∃ v', e = .returned v' ∧ w'.ownsRow w.heap.size 9 1 v' (itemsL b).length ((itemsL b).map encStr) ∧ Below w.heap.size w w' := by
  have hl1 := (BookRight_stocks hb).1
  have hl2 := LinesRight_len (BookRight_lines hb)
  have hnl := names_len hb
  obtain ⟨A, c, rfl, hc, h63, hrow⟩ := hvs
  obtain ⟨A', c', rfl, hc', h63', hrow'⟩ := hvl
  have HW := Lib.hid hrow; have HW' := Lib.hid hrow'; have G1 := Lib.hid hg1; clear hrow hrow' hg1 hb
  have g0 := bcell1 (below_alloc (Below.refl w.heap.size w) (.cells #[] 9)) hg0
  clear hg0
  go_enter Tryz.func63, Tryz.ntmps63
  go_wp2
  go_loopw [3, 14] (fun o i w' => ∃ (k : Nat) (pre : List (List UInt8)), k ≤ b.stocks.length ∧ i = .int .i64 k ∧ pre.length = k ∧ Hid (pre ++ (b.stocks.drop k).map (fun x => nm x.item) = b.stocks.map fun x => nm x.item) ∧ w'.ownsRow w.heap.size 9 1 o pre.length (pre.map encStr) ∧ Below w.heap.size w w') (fun _ i _ => b.stocks.length - (intOf i).toNat)
  case atStart => exact ⟨0, [], Nat.zero_le _, rfl, rfl, rfl, own_new (Nat.le_refl _), below_alloc (Below.refl _ _) _⟩
  case round =>
    obtain ⟨k, pre, hk, rfl, hl, hr, ho, hb⟩ := hrel
    have HB := Lib.hid hb; clear hb
    have hr := hr.out
    by_cases hlt : k < b.stocks.length
    · obtain ⟨x, hx, hd⟩ := split_at hlt
      obtain ⟨ad, rfl, hcell⟩ := HW.out k x hx
      rw [hd, List.map_cons] at hr
      have HR := Lib.hid hr; have HO := Lib.hid ho; have HL := Lib.hid hl; clear hr hx hd ho hl
      obtain ⟨c0, c1⟩ := (hcell.below HB.out).two
      clear hcell
      go_wp2_with (at_builtin; refine wpList_app (W := wr.alloc (.cells #[.string x.item, .int .i64 x.hand] 90)) rfl w.heap.size (.tmp 18) (.tmp 21) 55 9 (.string ByteArray.empty) 1 16 rfl Tryz.underlying55 infoS rfl (by omega) (by omega) _ pre.length (pre.map encStr) 1 [.string x.item] (by simp [Act.eval]) (by simp [Act.eval]) (by omega) rfl (by simp [Value.oneCell']) (HO.out.alloc _) (below_alloc HB.out _) (below_alloc HB.out _).size (by have := HL.out; omega) ?_; intro g' cap w3 ho3 hb3 hg3 ha3)
      go_roundw
      case rel => exact ⟨k + 1, pre ++ [nm x.item], by omega, by go_num, by simp [HL.out], Lib.hid (by simpa using HR.out), by simpa using ho3, hb3⟩
      case measure => simp [intOf]; omega
    · have hd : b.stocks.drop k = [] := List.drop_of_length_le (by omega)
      rw [hd, List.map_nil, List.append_nil] at hr
      have HR := Lib.hid hr; have HO := Lib.hid ho; have HL := Lib.hid hl; clear hr hd ho hl
      have g1 := bcell1 HB.out G1.out
      go_wp2
      clear g1
      go_loopw [3, 29] (fun o i w' => ∃ (k : Nat) (pre : List (List UInt8)), k ≤ b.lines.length ∧ i = .int .i64 k ∧ pre.length = b.stocks.length + k ∧ Hid (pre ++ (b.lines.drop k).map (fun x => nm x.item) = names b) ∧ w'.ownsRow w.heap.size 9 1 o pre.length (pre.map encStr) ∧ Below w.heap.size w w') (fun _ i _ => b.lines.length - (intOf i).toNat)
      case atStart => exact ⟨0, pre, Nat.zero_le _, rfl, by have := HL.out; omega, Lib.hid (by rw [HR.out]; rfl), HO.out, HB.out⟩
      case round =>
        clear HR HO HL HB
        obtain ⟨k, pre, hk, rfl, hl, hr, ho, hb⟩ := hrel
        have HB := Lib.hid hb; clear hb
        have hr := hr.out
        by_cases hlt : k < b.lines.length
        · obtain ⟨x, hx, hd⟩ := split_at hlt
          obtain ⟨ad, rfl, hcell⟩ := HW'.out k x hx
          rw [hd, List.map_cons] at hr
          have HR := Lib.hid hr; have HO := Lib.hid ho; have HL := Lib.hid hl; clear hr hx hd ho hl
          obtain ⟨c0, c1, c2, c3, c4, c5, c6, c7⟩ := (hcell.below HB.out).eight
          clear hcell
          have HB1 := Lib.hid (below_alloc HB.out (.cells #[.string x.partner, .string x.ref, .int .i64 x.no, .string x.item, .int .i64 x.ordered, .int .i64 x.sent, .int .i64 x.got, .int .i64 x.cut] 92))
          go_wp2_with (at_builtin; refine wpList_app (W := wr.alloc (.cells #[.string x.partner, .string x.ref, .int .i64 x.no, .string x.item, .int .i64 x.ordered, .int .i64 x.sent, .int .i64 x.got, .int .i64 x.cut] 92)) rfl w.heap.size (.tmp 33) (.tmp 36) 55 9 (.string ByteArray.empty) 1 16 rfl Tryz.underlying55 infoS rfl (by omega) (by omega) _ pre.length (pre.map encStr) 1 [.string x.item] (by simp [Act.eval]) (by simp [Act.eval]) (by omega) rfl (by simp [Value.oneCell']) (HO.out.alloc _) HB1.out HB1.out.size (by have := HL.out; omega) ?_; intro g' cap w3 ho3 hb3 hg3 ha3)
          go_roundw
          case rel => exact ⟨k + 1, pre ++ [nm x.item], by omega, by go_num, by simp [HL.out]; omega, Lib.hid (by simpa using HR.out), by simpa using ho3, hb3⟩
          case measure => simp [intOf]; omega
        · have hd : b.lines.drop k = [] := List.drop_of_length_le (by omega)
          rw [hd, List.map_nil, List.append_nil] at hr
          have HR := Lib.hid hr; clear hr hd
          have hpl : pre.length = (names b).length := by rw [HR.out]
          rw [HR.out] at ho
          have HO := Lib.hid ho; clear ho
          go_wp2_with (first
            | (go_at_call 103; refine (sort_own HO.out (by omega) HB.out.size).mono ?_; rintro e w4 ⟨rfl, ho4, hb4⟩; have O4 := Lib.hid (by rw [← srt_len (names b)] at ho4; exact ho4); have B4 := Lib.hid (HB.out.trans hb4); clear ho4 hb4)
            | (go_at_call 104; refine (compact_own O4.out (by rw [srt_len]; omega) B4.out.size).mono ?_; rintro e w5 ⟨v5, rfl, ho5, hb5⟩; have O5 := Lib.hid ho5; have B5 := Lib.hid (B4.out.trans hb5); clear ho5 hb5))
          go_ret
          exact ⟨_, rfl, O5.out, B5.out⟩
end Go.Proofs.YtpnhbfdofgjidaaGreatDoor.T
