/- BookItems of spec: the next least, again and again. -/
import Derived.Test.YtpnhbfdofgjidaaGreatDoorST
namespace Go.Proofs.YtpnhbfdofgjidaaGreatDoor.T
open Go.RowKit
open Go.Sort
theorem isName_pos {s : ByteArray} (h : isName s = true) : 1 ≤ s.size ∧ s.size ≤ 12 := by
  unfold isName within at h
  rw [Bool.and_eq_true, decide_eq_true_eq] at h
  omega
def allB (b : Book) : List ByteArray := b.stocks.map (fun x => x.item) ++ b.lines.map (fun x => x.item)
theorem names_allB (b : Book) : names b = (allB b).map nm := by simp only [names, allB, List.map_append, List.map_map]; rfl
theorem allB_cells (b : Book) : (allB b).flatMap txCs = (names b).map encStr := by
  rw [names_allB]
  generalize allB b = xs
  induction xs with
  | nil => rfl
  | cons x xs ih => rw [List.flatMap_cons, ih]; rfl
theorem allB_pos {b : Book} (hb : BookRight b = true) : ∀ x ∈ allB b, 1 ≤ x.size ∧ x.size ≤ 12 := by
  intro x hx
  unfold allB at hx
  rcases List.mem_append.1 hx with h | h
  · obtain ⟨y, hy, rfl⟩ := List.mem_map.1 h
    have := stockOk_nums ((BookRight_stocks hb).2.2 y hy)
    omega
  · obtain ⟨y, hy, rfl⟩ := List.mem_map.1 h
    obtain ⟨j, hj⟩ := List.getElem?_of_mem hy
    have hr := LinesRight_right (BookRight_lines hb) j y hj
    simp [LineRight] at hr
    exact isName_pos hr.1.2
theorem names_ne {b : Book} (hb : BookRight b = true) : ∀ x ∈ names b, x ≠ [] := by
  intro x hx
  rw [names_allB] at hx
  obtain ⟨y, hy, rfl⟩ := List.mem_map.1 hx
  have := (allB_pos hb y hy).1
  have h2 : y.size = (nm y).length := rfl
  intro e
  have h3 : (nm y).length = 0 := by rw [e]; rfl
  omega
theorem nm_list (s : ByteArray) : s.toList = nm s := ByteArray.toList_eq s
theorem gt_bl (x l : List UInt8) : (Op.bytesLess x l || x == l) = !bl l x := by
  rcases bl_tri x l with h | rfl | h
  · have h2 := bl_asym h
    rw [h2]
    show (bl x l || _) = _
    rw [h]; rfl
  · rw [bl_irr]; simp
  · have h2 := bl_asym h
    have h3 := bl_ne h
    rw [h]
    show (bl x l || _) = _
    rw [h2]
    simpa using fun e => h3 e.symm
set_option maxHeartbeats 8000000 in
set_option maxRecDepth 100000 in
theorem s_BookItems (b : Book) (v : Value) (w : World) (hv : BookV w v b) (hs : b.ok) (hb : BookRight b = true) :
    Calls Tryz.prog 18 #[v] w fun e w' => ∃ v', e = .returned v' ∧ w'.ownsRow w.heap.size 9 1 v' (itemsL b).length ((itemsL b).map encStr) ∧ Below w.heap.size w w' := by
  have HV := Lib.hid hv; have HS := Lib.hid hs; clear hs
  obtain ⟨vs, vl, rfl, hvs, hvl⟩ := hv
  have hl1 := (BookRight_stocks hb).1
  have hl2 := LinesRight_len (BookRight_lines hb)
  have hnl := names_len hb
  have hab : (allB b).length ≤ 300 := by rw [names_allB, List.length_map] at hnl; exact hnl
  obtain ⟨hcount, _⟩ := items_small hb
  have hcl : (itemsL b).length ≤ 300 := by unfold itemsB at hcount; rw [List.length_map] at hcount; exact hcount
  have HPOS := Lib.hid (allB_pos hb); have HNE := Lib.hid (names_ne hb)
  have HBR := Lib.hid hb; clear hb hcount
  obtain ⟨A, c, rfl, hc, h63, hrow⟩ := hvs
  obtain ⟨A', c', rfl, hc', h63', hrow'⟩ := hvl
  have HW := Lib.hid hrow; have HW' := Lib.hid hrow'; clear hrow hrow'
  go_enter Tryz.func18, Tryz.ntmps18
  go_wp2_with (go_at_call 17; refine (s_BookRight _ _ _ (HV.out.below (below_alloc (below_alloc (Below.refl _ _) _) _)) HS.out).mono ?_; rintro e w1 ⟨rfl, hb1⟩; rw [HBR.out]; have O1 := Lib.hid (own_below (own_new (W := (w.alloc (.cells #[.slice A b.stocks.length c, .slice A' b.lines.length c'] 31))) (B := (w.alloc (.cells #[.slice A b.stocks.length c, .slice A' b.lines.length c'] 31)).heap.size) (e := 9) (size := 1) (Nat.le_refl _)) hb1); have Z1 := hb1.size; rw [show ∀ (a b : Obj), ((w.alloc a).alloc b).heap.size = w.heap.size + 1 + 1 from fun _ _ => by simp] at Z1; have B1 := Lib.hid (below_trans (below_alloc (Below.refl (w.alloc (.cells #[.slice A b.stocks.length c, .slice A' b.lines.length c'] 31)).heap.size (w.alloc (.cells #[.slice A b.stocks.length c, .slice A' b.lines.length c'] 31))) _) hb1); clear hb1)
  go_loopw [4, 5] (fun o i w' => ∃ (k : Nat) (pre : List (List UInt8)), k ≤ b.stocks.length ∧ i = .int .i64 k ∧ pre.length = k ∧ Hid (pre ++ (b.stocks.drop k).map (fun x => nm x.item) = b.stocks.map fun x => nm x.item) ∧ w'.ownsRow w1.heap.size 9 1 o pre.length (pre.map encStr) ∧ Below w1.heap.size w1 w') (fun _ i _ => b.stocks.length - (intOf i).toNat)
  case atStart => exact ⟨0, [], Nat.zero_le _, rfl, rfl, rfl, own_new (Nat.le_refl _), below_alloc (Below.refl _ _) _⟩
  case round =>
    obtain ⟨k, pre, hk, rfl, hl, hr, ho, hb⟩ := hrel
    have HB := Lib.hid hb
    have x0 := bcell1 hb (bcell1 (a := ⟨w.heap.size, 0, none⟩) (v := .slice A b.stocks.length c) B1.out (by go_simp)); have x1 := bcell1 hb (bcell1 (a := ⟨w.heap.size, 1, none⟩) (v := .slice A' b.lines.length c') B1.out (by go_simp)); clear hb
    have hr := hr.out
    by_cases hlt : k < b.stocks.length
    · obtain ⟨x, hx, hd⟩ := split_at hlt
      obtain ⟨ad, rfl, hcell⟩ := HW.out k x hx
      rw [hd, List.map_cons] at hr
      have HR := Lib.hid hr; have HO := Lib.hid ho; have HL := Lib.hid hl; clear hr hx hd ho hl
      obtain ⟨c0, c1⟩ := (hcell.below (below_trans (below_trans (below_alloc (Below.refl w.heap.size w) _) B1.out) HB.out)).two
      clear hcell
      go_wp2_with (at_builtin; refine wpList_app (W := wr) rfl w1.heap.size (.tmp 23) (.tmp 30) 55 9 (.string ByteArray.empty) 1 16 rfl Tryz.underlying55 infoS rfl (by omega) (by omega) _ pre.length (pre.map encStr) 1 [.string x.item] (by simp [Act.eval]) (by simp [Act.eval]) (by omega) rfl (by simp [Value.oneCell']) HO.out HB.out HB.out.size (by have := HL.out; omega) ?_; intro g' cap w3 ho3 hb3 hg3 ha3)
      go_roundw
      case rel => exact ⟨k + 1, pre ++ [nm x.item], by omega, by go_num, by simp [HL.out], Lib.hid (by simpa using HR.out), by simpa using ho3, hb3⟩
      case measure => simp [intOf]; omega
    · have hd : b.stocks.drop k = [] := List.drop_of_length_le (by omega)
      rw [hd, List.map_nil, List.append_nil] at hr
      have HR := Lib.hid hr; have HO := Lib.hid ho; have HL := Lib.hid hl; clear hr hd ho hl
      go_wp2
      clear x0 x1
      go_loopw [4, 6] (fun o i w' => ∃ (k : Nat) (pre : List (List UInt8)), k ≤ b.lines.length ∧ i = .int .i64 k ∧ pre.length = b.stocks.length + k ∧ Hid (pre ++ (b.lines.drop k).map (fun x => nm x.item) = names b) ∧ w'.ownsRow w1.heap.size 9 1 o pre.length (pre.map encStr) ∧ Below w1.heap.size w1 w') (fun _ i _ => b.lines.length - (intOf i).toNat)
      case atStart => exact ⟨0, pre, Nat.zero_le _, rfl, by have := HL.out; omega, Lib.hid (by rw [HR.out]; rfl), HO.out, HB.out⟩
      case round =>
        clear HR HO HL HB
        obtain ⟨k, pre, hk, rfl, hl, hr, ho, hb⟩ := hrel
        have HB := Lib.hid hb
        have x0 := bcell1 hb (bcell1 (a := ⟨w.heap.size, 0, none⟩) (v := .slice A b.stocks.length c) B1.out (by go_simp)); have x1 := bcell1 hb (bcell1 (a := ⟨w.heap.size, 1, none⟩) (v := .slice A' b.lines.length c') B1.out (by go_simp)); clear hb
        have hr := hr.out
        by_cases hlt : k < b.lines.length
        · obtain ⟨x, hx, hd⟩ := split_at hlt
          obtain ⟨ad, rfl, hcell⟩ := HW'.out k x hx
          rw [hd, List.map_cons] at hr
          have HR := Lib.hid hr; have HO := Lib.hid ho; have HL := Lib.hid hl; clear hr hx hd ho hl
          obtain ⟨c0, c1, c2, c3, c4, c5, c6, c7⟩ := (hcell.below (below_trans (below_trans (below_alloc (Below.refl w.heap.size w) _) B1.out) HB.out)).eight
          clear hcell
          go_wp2_with (at_builtin; refine wpList_app (W := wr) rfl w1.heap.size (.tmp 39) (.tmp 46) 55 9 (.string ByteArray.empty) 1 16 rfl Tryz.underlying55 infoS rfl (by omega) (by omega) _ pre.length (pre.map encStr) 1 [.string x.item] (by simp [Act.eval]) (by simp [Act.eval]) (by omega) rfl (by simp [Value.oneCell']) HO.out HB.out HB.out.size (by have := HL.out; omega) ?_; intro g' cap w3 ho3 hb3 hg3 ha3)
          go_roundw
          case rel => exact ⟨k + 1, pre ++ [nm x.item], by omega, by go_num, by simp [HL.out]; omega, Lib.hid (by simpa using HR.out), by simpa using ho3, hb3⟩
          case measure => simp [intOf]; omega
        · have hd : b.lines.drop k = [] := List.drop_of_length_le (by omega)
          rw [hd, List.map_nil, List.append_nil] at hr
          have HR := Lib.hid hr; clear hr hd
          rw [HR.out] at ho
          have AO := Lib.hid (own0_of (enc := txCs) (xs := allB b) (fun _ => rfl) rfl (by rw [allB_cells]; have h3 : (names b).length = (allB b).length := by rw [names_allB, List.length_map]
                                                                                          rw [← h3]; exact ho))
          clear ho
          go_wp2
          clear x0 x1
          obtain ⟨Aa, ca, rfl, hca, h63a, _⟩ := AO.out.rows fun _ => rfl
          go_loopw [3, 7, 8, 9] (fun o _ _ _ w' => ∃ (k : Nat) (go co : Nat), k ≤ (itemsL b).length ∧ o = .slice (some ⟨go, 0, none⟩) k co ∧ w'.ownsRow (w.alloc (.cells #[.slice A b.stocks.length c, .slice A' b.lines.length c'] 31)).heap.size 9 1 o k (((itemsL b).take k).map encStr) ∧ Hid (∀ j, (Value.slice Aa (allB b).length ca).ownBlock = some j → go ≠ j) ∧ Own0 txCs 1 9 w1.heap.size w' (.slice Aa (allB b).length ca) (allB b) ∧ Below (w.alloc (.cells #[.slice A b.stocks.length c, .slice A' b.lines.length c'] 31)).heap.size (w.alloc (.cells #[.slice A b.stocks.length c, .slice A' b.lines.length c'] 31)) w') (fun o _ _ _ _ => (itemsL b).length - (match o with | .slice _ n _ => n | _ => 0))
          case atStart =>
            refine ⟨0, w.heap.size + 1, 0, Nat.zero_le _, rfl, ?_, Lib.hid fun j hj => ?_, AO.out, below_trans B1.out HB.out⟩
            · have h := own_below O1.out HB.out
              rw [show (w.alloc (.cells #[.slice A b.stocks.length c, .slice A' b.lines.length c'] 31)).heap.size = w.heap.size + 1 by simp] at h ⊢
              exact h
            · have := (AO.out.ge j hj).1; omega
          case round =>
            clear AO HB
            rename World => wo
            obtain ⟨k, go, co, hk, rfl, ho, hne, ha, hb⟩ := hrel
            have HNEB := hne; have HO := Lib.hid ho; have AO := Lib.hid ha; have HB := Lib.hid hb; clear hne ha hb
            obtain ⟨A2, c2, he2, _, _, hrow2⟩ := AO.out.rows fun _ => rfl
            cases he2
            have HROW := Lib.hid hrow2; clear hrow2
            have hlast : (((k : Int) == 0) = true ∧ Hid (lastOf (itemsL b) k = none)) ∨ ∃ lB : ByteArray, ((k : Int) == 0) = false ∧ IntKind.i64.wrap ((k:Int) - 1) = ((k-1 : Nat) : Int) ∧ k - 1 < k ∧ wo.cell? ⟨go, k - 1, none⟩ = some (.string lB) ∧ Hid (lastOf (itemsL b) k = some (nm lB)) := by
              by_cases h0 : k = 0
              · exact .inl ⟨by simp [h0], by rw [lastOf, if_pos h0]; exact rfl⟩
              · have hk1 : k - 1 < (itemsL b).length := by omega
                refine .inr ⟨⟨(itemsL b)[k-1].toArray⟩, by simpa using h0, by rw [IntKind.wrap_i64]; omega, by omega, ?_, by rw [lastOf, if_neg h0, List.getElem?_eq_getElem hk1]; exact Lib.hid (by simp)⟩
                have h := ho.cells (g := go) rfl (k-1) (encStr (itemsL b)[k-1]) (by simp [List.getElem?_take_of_lt (show k - 1 < k by omega), hk1])
                rw [add_plain] at h
                exact h
            clear ho
            go_wp2
            go_loopw [7, 8, 9] (fun t i _ w' => ∃ (j : Nat) (n : ByteArray), j ≤ (allB b).length ∧ i = .int .i64 j ∧ t = .string n ∧ ((names b).drop j).foldl (pick (lastOf (itemsL b) k)) (nm n) = least (lastOf (itemsL b) k) (names b) ∧ Below wo.heap.size wo w') (fun _ i _ _ => (allB b).length - (intOf i).toNat)
            case atStart => exact ⟨0, ⟨#[]⟩, Nat.zero_le _, rfl, rfl, rfl, Below.refl _ _⟩
            case round =>
              obtain ⟨j, n, hj, rfl, rfl, hf, hb2⟩ := hrel
              have HB2 := Lib.hid hb2
              by_cases hjl : j < (allB b).length
              · obtain ⟨x, hx, hd⟩ := split_at hjl
                obtain ⟨ad, rfl, hcell⟩ := HROW.out j x hx
                have c0 := (hcell.below hb2).one
                rw [Nat.mul_one] at c0
                have hd2 : (names b).drop j = nm x :: (names b).drop (j+1) := by rw [names_allB, ← List.map_drop, ← List.map_drop, hd]; rfl
                rw [hd2, List.foldl_cons] at hf
                have HF := Lib.hid hf; clear hf hd hd2 hx hcell
                have hq : (n.toList.isEmpty = true ∧ Hid (nm n = [])) ∨ (n.toList.isEmpty = false ∧ Op.bytesLess x.toList n.toList = true ∧ Hid (bl (nm x) (nm n) = true)) ∨ (n.toList.isEmpty = false ∧ Op.bytesLess x.toList n.toList = false ∧ Hid (nm n ≠ [] ∧ bl (nm x) (nm n) = false)) := by
                  rw [nm_list, nm_list]
                  cases h1 : (nm n).isEmpty
                  · cases h2 : Op.bytesLess (nm x) (nm n)
                    · exact .inr (.inr ⟨rfl, rfl, fun e => by rw [e] at h1; simp at h1, h2⟩)
                    · exact .inr (.inl ⟨rfl, rfl, h2⟩)
                  · exact .inl ⟨rfl, List.isEmpty_iff.1 h1⟩
                rcases hlast with ⟨e4, hla⟩ | ⟨lB, e4, e5, e6, hl, hla⟩
                · rcases hq with ⟨q1, hq⟩ | ⟨q1, q2, hq⟩ | ⟨q1, q2, hq⟩
                  · have HP := Lib.hid (show pick (lastOf (itemsL b) k) (nm n) (nm x) = nm x by rw [pick, if_pos ⟨by rw [hla.out]; rfl, .inl hq.out⟩])
                    clear hb2 hq hla
                    go_wp2
                    go_quiet (fail)
                    go_wp2
                    go_roundw
                    case rel => exact ⟨j + 1, x, by omega, by go_num, rfl, by rw [← HF.out, HP.out], below_drewN HB2.out _⟩
                    case measure => simp [intOf]; omega
                  · have HP := Lib.hid (show pick (lastOf (itemsL b) k) (nm n) (nm x) = nm x by rw [pick, if_pos ⟨by rw [hla.out]; rfl, .inr hq.out⟩])
                    clear hb2 hq hla
                    go_wp2
                    go_quiet (fail)
                    go_wp2
                    go_roundw
                    case rel => exact ⟨j + 1, x, by omega, by go_num, rfl, by rw [← HF.out, HP.out], below_drewN HB2.out _⟩
                    case measure => simp [intOf]; omega
                  · have HP := Lib.hid (show pick (lastOf (itemsL b) k) (nm n) (nm x) = nm n by rw [pick, if_neg (fun h => by rcases h.2 with h | h; exact hq.out.1 h; rw [hq.out.2] at h; cases h)])
                    clear hb2 hq hla
                    go_wp2
                    go_quiet (fail)
                    go_wp2
                    go_roundw
                    case rel => exact ⟨j + 1, n, by omega, by go_num, rfl, by rw [← HF.out, HP.out], below_drewN HB2.out _⟩
                    case measure => simp [intOf]; omega
                · have hg := gt_bl (nm x) (nm lB)
                  rw [← nm_list, ← nm_list] at hg
                  have gl := bcell1 hb2 hl
                  cases hlt2 : bl (nm lB) (nm x)
                  · rw [nm_list, nm_list, hlt2, ← nm_list, ← nm_list, Bool.not_false] at hg
                    have HP := Lib.hid (show pick (lastOf (itemsL b) k) (nm n) (nm x) = nm n by rw [pick, if_neg (fun h => by have h1 := h.1; rw [hla.out] at h1; unfold later at h1; simp only at h1; rw [hlt2] at h1; cases h1)])
                    clear hb2 hq hla
                    go_wp2
                    go_quiet (fail)
                    go_wp2
                    go_roundw
                    case rel => exact ⟨j + 1, n, by omega, by go_num, rfl, by rw [← HF.out, HP.out], below_drewN HB2.out _⟩
                    case measure => simp [intOf]; omega
                  · rw [nm_list, nm_list, hlt2, ← nm_list, ← nm_list, Bool.not_true] at hg
                    rcases hq with ⟨q1, hq⟩ | ⟨q1, q2, hq⟩ | ⟨q1, q2, hq⟩
                    · have HP := Lib.hid (show pick (lastOf (itemsL b) k) (nm n) (nm x) = nm x by rw [pick, if_pos ⟨by rw [hla.out]; exact hlt2, .inl hq.out⟩])
                      clear hb2 hq hla
                      go_wp2
                      go_quiet (fail)
                      go_wp2
                      go_roundw
                      case rel => exact ⟨j + 1, x, by omega, by go_num, rfl, by rw [← HF.out, HP.out], below_drewN HB2.out _⟩
                      case measure => simp [intOf]; omega
                    · have HP := Lib.hid (show pick (lastOf (itemsL b) k) (nm n) (nm x) = nm x by rw [pick, if_pos ⟨by rw [hla.out]; exact hlt2, .inr hq.out⟩])
                      clear hb2 hq hla
                      go_wp2
                      go_quiet (fail)
                      go_wp2
                      go_roundw
                      case rel => exact ⟨j + 1, x, by omega, by go_num, rfl, by rw [← HF.out, HP.out], below_drewN HB2.out _⟩
                      case measure => simp [intOf]; omega
                    · have HP := Lib.hid (show pick (lastOf (itemsL b) k) (nm n) (nm x) = nm n by rw [pick, if_neg (fun h => by rcases h.2 with h | h; exact hq.out.1 h; rw [hq.out.2] at h; cases h)])
                      clear hb2 hq hla
                      go_wp2
                      go_quiet (fail)
                      go_wp2
                      go_roundw
                      case rel => exact ⟨j + 1, n, by omega, by go_num, rfl, by rw [← HF.out, HP.out], below_drewN HB2.out _⟩
                      case measure => simp [intOf]; omega
              · have hd : (names b).drop j = [] := List.drop_of_length_le (by rw [names_allB, List.length_map]; omega)
                rw [hd] at hf
                have hf2 : nm n = ((itemsL b)[k]?).getD [] := by
                  have h := least_next HNE.out hk
                  exact hf.trans h
                have hb3 := below_trans HB.out hb2
                have ZZ := hb2.size
                have AO2 := Lib.hid (AO.out.below hb2); have HO2 := Lib.hid (own_below HO.out hb2); have HBB := Lib.hid (HB.out.trans (hb2.mono HB.out.size)); clear hlast hb2 hb3 hf hd
                by_cases hks : k < (itemsL b).length
                · rw [List.getElem?_eq_getElem hks, Option.getD_some] at hf2
                  have hne2 : (itemsL b)[k] ≠ [] := HNE.out _ (((uniq_lt (names b)).2 _).1 (List.getElem_mem hks))
                  have q1 : n.toList.isEmpty = false := by rw [nm_list, hf2]; simpa using hne2
                  have HT := Lib.hid (show ((itemsL b).take k).map encStr ++ [.string n] = ((itemsL b).take (k + 1)).map encStr by rw [List.take_succ_eq_append_getElem hks, List.map_append, ← hf2]; rfl)
                  clear hne2 hf2
                  go_wp2_with (at_builtin; refine wpList_app (W := wr) rfl (w.alloc (.cells #[.slice A b.stocks.length c, .slice A' b.lines.length c'] 31)).heap.size (.tmp 90) (.tmp 92) 55 9 (.string ByteArray.empty) 1 16 rfl Tryz.underlying55 infoS rfl (by omega) (by omega) _ k (((itemsL b).take k).map encStr) 1 [.string n] (by simp [Act.eval]) (by simp [Act.eval]) (by omega) rfl (by simp [Value.oneCell']) HO2.out HBB.out HBB.out.size (by omega) ?_; intro g' cap w3 ho3 hb3 hg3 ha3)
                  have AO3 := Lib.hid (AO2.out.kept hg3 (by
                    cases hv : (Value.slice Aa (allB b).length ca).ownBlock with
                    | none => exact .inl rfl
                    | some j => exact .inr fun h => HNEB.out j hv (by simpa [Value.ownBlock] using h.symm)))
                  have HN3 := Lib.hid (show ∀ j, (Value.slice Aa (allB b).length ca).ownBlock = some j → g' ≠ j by
                    intro j hj
                    rcases ha3 with h | h
                    · have h2 : go = g' := by simpa [Value.ownBlock] using h
                      rw [← h2]; exact HNEB.out j hj
                    · have := (AO2.out.ge j hj).2
                      omega)
                  go_roundw
                  case rel => exact ⟨k + 1, g', cap, by omega, rfl, by rw [← HT.out]; exact ho3, HN3, AO3.out, hb3⟩
                  case measure => simp; omega
                · rw [List.getElem?_eq_none (by omega), Option.getD_none] at hf2
                  have q1 : n.toList.isEmpty = true := by rw [nm_list, hf2]; rfl
                  have HT := Lib.hid (show (itemsL b).take k = itemsL b ∧ k = (itemsL b).length from ⟨List.take_of_length_le (by omega), by omega⟩)
                  clear hf2
                  go_wp2
                  go_ret
                  exact ⟨_, rfl, by have h := HO2.out; rw [HT.out.1] at h; rw [← HT.out.2]; exact own_less h (by simp), below_trans (below_alloc (Below.refl w.heap.size w) _) HBB.out⟩
end Go.Proofs.YtpnhbfdofgjidaaGreatDoor.T
