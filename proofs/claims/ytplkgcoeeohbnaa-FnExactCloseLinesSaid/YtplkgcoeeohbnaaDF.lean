/- slices.DeleteFunc of the lines that are over; impl.CloseLines. -/
import Derived.Test.YtplkgcoeeohbnaaTO
import Derived.Test.YtplkgcoeeohbnaaNP
import Derived.Test.YtplkgcoeeohbnaaCOrderLine
import Derived.Lib.SliceRun
import Derived.Laws.IdiomCopy
namespace Go.Proofs.Ytplkgcoeeohbnaa.T
open Go.RowKit
theorem World.rowIs.setCells {g E m : Nat} : ∀ (L : List Value) (o : Nat) (w : World) (f : Nat → Value), w.rowIs g E m f → ∃ f', (w.setCells g o L).rowIs g E m f' ∧ ∀ k, k < o → f' k = f k
  | [], _, w, f, h => ⟨f, h, fun _ _ => rfl⟩
  | v :: r, o, w, f, h => by
    obtain ⟨f', h1, h2⟩ := World.rowIs.setCells r (o + 1) _ _ (h.set o v)
    refine ⟨f', h1, fun k hk => ?_⟩
    rw [h2 k (by omega)]
    simp [show ¬ k = o by omega]
theorem But.setCells {g : Nat} : ∀ (L : List Value) (o : Nat) (w w1 : World), But w w1 g → But w (w1.setCells g o L) g
  | [], _, _, _, h => h
  | v :: r, o, w, _, h => But.setCells r (o + 1) w _ (h.set o v)
def over (x : OrderLine) : Bool := decide (4 ≤ three x)
def idxOver : List OrderLine → Nat → Int
  | [], _ => -1
  | x :: xs, k => if over x = true then (k : Int) else idxOver xs (k + 1)
set_option maxHeartbeats 1000000 in
theorem over_calls (l : OrderLine) (w : World) (hn : LineNums l) : Calls Try.prog 69 #[l.v] w fun e w' => e = .returned (.bool (over l)) ∧ Below w.heap.size w w' := by
  have HN := Lib.hid hn; clear hn
  go_enter Try.func69, Try.ntmps69
  go_wp2_with fail
  refine (i_three l _ HN.out).mono ?_
  rintro e w1 ⟨rfl, hb⟩
  have HB := Lib.hid (below_trans (below_alloc (Below.refl _ _) _) hb); clear hb
  go_wp2
  go_ret
  exact ⟨ret_bool (by unfold over; simp), HB.out⟩
set_option maxHeartbeats 2000000 in
set_option maxRecDepth 100000 in
theorem idxOver_calls (xs : List OrderLine) (v : Value) (w : World) (hv : Rows OrderLine.cs 8 w v xs) (hn : ∀ (k : Nat) x, xs[k]? = some x → LineNums x) :
    Calls Try.prog 90 #[v, .func (.func 69) #[] #[]] w fun e w' => e = .returned (.int .i64 (idxOver xs 0)) ∧ Below w.heap.size w w' := by
  obtain ⟨A, c, rfl, hc, h63, hrow⟩ := hv
  have HW := Lib.hid hrow; have HN := Lib.hid hn; clear hrow hn
  go_enter Try.func90, Try.ntmps90
  go_wp2
  go_loopw [8] (fun i w' => ∃ k : Nat, k ≤ xs.length ∧ i = .int .i64 k ∧ Hid (idxOver (xs.drop k) k = idxOver xs 0) ∧ Below w.heap.size w w') (fun i _ => xs.length - (intOf i).toNat)
  case atStart => exact ⟨0, Nat.zero_le _, rfl, Lib.hid rfl, Below.refl _ _⟩
  case round =>
    obtain ⟨k, hk, rfl, hr, hb⟩ := hrel
    have HB := Lib.hid hb; clear hb
    by_cases hlt : k < xs.length
    · obtain ⟨x, hx, hd⟩ := split_at hlt
      obtain ⟨ad, rfl, hcell⟩ := HW.out k x hx
      have hr := hr.out
      rw [hd, idxOver] at hr
      have HR := Lib.hid hr
      have HX := Lib.hid (HN.out k x hx)
      obtain ⟨c0, c1, c2, c3, c4, c5, c6, c7⟩ := (hcell.below HB.out).eight
      clear hr hx hd hcell
      rcases Bool.eq_false_or_eq_true (over x) with b | b
      all_goals
        rw [b] at HR
        have QB := Lib.hid b; clear b
        go_wp2_with fail
        refine (over_calls x _ HX.out).mono ?_
        rintro e w1 ⟨rfl, hb1⟩
        have B1 := Lib.hid (below_trans HB.out hb1); clear hb1
        rw [QB.out]
        go_wp2
      · go_ret
        exact ⟨ret_int (by have := HR.out; rwa [if_pos (by first | trivial | rfl)] at this), B1.out⟩
      · go_roundw
        case rel => exact ⟨k + 1, by omega, by go_num, Lib.hid (by have := HR.out; rwa [if_neg (by simp)] at this), B1.out⟩
        case measure => simp [intOf]; omega
    · have hd : xs.drop k = [] := List.drop_of_length_le (by omega)
      have hr := hr.out
      rw [hd, idxOver] at hr
      have HR := Lib.hid hr; clear hr hd
      go_wp2
      go_ret
      exact ⟨ret_int HR.out, HB.out⟩
theorem idxOver_none : ∀ (xs : List OrderLine) (k : Nat), idxOver xs k = -1 → xs.filter (fun x => !over x) = xs
  | [], _, _ => rfl
  | x :: xs, k, h => by
    unfold idxOver at h
    by_cases hx : over x = true
    · rw [if_pos hx] at h; omega
    · rw [if_neg hx] at h
      rw [List.filter_cons, if_pos (by simpa using hx), idxOver_none xs (k + 1) h]
theorem idxOver_some : ∀ (xs : List OrderLine) (k : Nat), idxOver xs k ≠ -1 → ∃ i x, idxOver xs k = ((k + i : Nat) : Int) ∧ xs[i]? = some x ∧ over x = true ∧ xs.filter (fun x => !over x) = xs.take i ++ (xs.drop (i + 1)).filter (fun x => !over x)
  | [], _, h => absurd rfl h
  | x :: xs, k, h => by
    unfold idxOver at h ⊢
    by_cases hx : over x = true
    · rw [if_pos hx]
      exact ⟨0, x, by simp, rfl, hx, by simp [hx]⟩
    · rw [if_neg hx] at h ⊢
      obtain ⟨i, y, h1, h2, h3, h4⟩ := idxOver_some xs (k + 1) h
      refine ⟨i + 1, y, by rw [h1]; omega, by simpa using h2, h3, ?_⟩
      rw [List.filter_cons, if_pos (by simpa using hx), h4]
      simp
theorem run_clear_row {P : Program} (w : World) (t e ty : TypeId) (z : Value) (ht : P.underlying t = some (.slice e)) (hv : ∀ w, (zeroValue e).run P w = .ok z w) (b o n c : Nat) (hn : 0 < n) (L : List Value) (hL : (Builtin.zeroCells z.cells n).toList = L)
    (h1 : ∀ v ∈ L, v.oneCell' = true) (hc : ∀ j, j < L.length → (w.cell? ⟨b, o + j, none⟩).isSome = true) (hf : ∀ j, j < L.length → w.frozen? ⟨b, o + j, none⟩ = false) :
    (Builtin.clear_ #[t] ty #[.slice (some ⟨b, o, none⟩) n c]).run P w = .ok (.tuple #[]) (w.setCells b o L) := by
  have hst := run_storeCells_cells (P := P) b o L 0 w (by simpa using hc) (by simpa using hf) h1
  simp only [Nat.add_zero] at hst
  obtain ⟨m, rfl⟩ : ∃ m, n = m + 1 := ⟨n - 1, by omega⟩
  simp [Builtin.clear_, run_underlying ht, hv, hL, hst]
theorem clearZ : ∀ v ∈ (Builtin.zeroCells (Value.agg #[.string ByteArray.empty, .string ByteArray.empty, .int .i64 0, .string ByteArray.empty, .int .i64 0, .int .i64 0, .int .i64 0, .int .i64 0]).cells 0).toList, v.oneCell' = true := by simp [Builtin.zeroCells]
def ReadsR (xs : List OrderLine) (f : Nat → Value) (o : Nat) : Prop := ∀ (j : Nat) x, xs[j]? = some x → ∀ i u, x.cs[i]? = some u → f ((o + j) * 8 + i) = u
theorem rows_rowIs {w : World} {g cap : Nat} {f : Nat → Value} {xs : List OrderLine} (h : w.rowIs g 33 (cap * 8) f) (hl : xs.length ≤ cap) (h63 : xs.length ≤ 9223372036854775807) (hf : ReadsR xs f 0) : Rows OrderLine.cs 8 w (.slice (some ⟨g, 0, none⟩) xs.length cap) xs := by
  refine ⟨_, cap, rfl, hl, h63, fun j x hx => ⟨_, rfl, ?_⟩⟩
  have hj : j < xs.length := (List.getElem?_eq_some_iff.1 hx).1
  rw [add_plain]
  have key : ∀ i u, x.cs[i]? = some u → w.cell? ⟨g, j * 8 + i, none⟩ = some u := fun i u hu => by
    have hi : i < 8 := (List.getElem?_eq_some_iff.1 hu).1
    rw [h.cell (by omega), ← hf j x hx i u hu, Nat.zero_add]
  exact ⟨fun u hu => key 0 u hu, fun i u hu => key (i+1) u hu⟩
set_option maxHeartbeats 4000000 in
set_option maxRecDepth 100000 in
theorem delete_calls (xs : List OrderLine) (g cap : Nat) (f : Nat → Value) (w : World) (hr : w.rowIs g 33 (cap * 8) f) (hl : xs.length ≤ cap) (_hcap : cap ≤ 9223372036854775807) (hlen : xs.length ≤ 1048576) (hf : ReadsR xs f 0) (hn : ∀ (k : Nat) x, xs[k]? = some x → LineNums x) :
    Calls Try.prog 68 #[.slice (some ⟨g, 0, none⟩) xs.length cap, .func (.func 69) #[] #[]] w fun e w' => ∃ f', e = .returned (.slice (some ⟨g, 0, none⟩) (xs.filter fun x => !over x).length cap) ∧ w'.rowIs g 33 (cap * 8) f' ∧ ReadsR (xs.filter fun x => !over x) f' 0 ∧ But w w' g := by
  have HV := Lib.hid (rows_rowIs hr hl (by omega) hf)
  have HR0 := Lib.hid hr; have HF0 := Lib.hid hf; have HN := Lib.hid hn
  have hg := hr.lt
  clear hr hf hn
  go_enter Try.func68, Try.ntmps68
  go_wp2_with fail
  refine (idxOver_calls _ _ _ HV.out HN.out).mono ?_
  rintro e w1 ⟨rfl, hb1⟩
  by_cases hi : idxOver xs 0 = -1
  · have HE := Lib.hid (idxOver_none xs 0 hi)
    have N1 := Lib.hid (But.of_below hb1 g)
    have HR1 := Lib.hid (HR0.out.of_block (hb1.block g hg))
    clear hb1
    rw [hi]
    clear hi
    go_wp2
    go_ret
    rw [HE.out]
    exact ⟨f, rfl, HR1.out, HF0.out, N1.out⟩
  · obtain ⟨i, x, h1, h2, h3, h4⟩ := idxOver_some xs 0 hi
    rw [Nat.zero_add] at h1
    have hilt : i < xs.length := (List.getElem?_eq_some_iff.1 h2).1
    have N1 := Lib.hid (But.of_below hb1 g)
    have HR1 := Lib.hid (HR0.out.of_block (hb1.block g hg))
    have hg1 : g < w1.heap.size := Nat.lt_of_lt_of_le hg hb1.size
    have H4 := Lib.hid h4
    have q1 : ((i : Int) == -1) = false := by simp
    clear hb1 h2 h3 h4 hi
    rw [h1]
    clear h1
    go_wp2
    go_loopw [5, 6] (fun vi vj w' => ∃ (i j : Nat) (kept : List OrderLine) (f : Nat → Value), i < j ∧ j ≤ xs.length ∧ vi = .int .i64 i ∧ vj = .int .i64 j ∧ Hid (kept.length = i) ∧ Hid (kept ++ (xs.drop j).filter (fun x => !over x) = xs.filter fun x => !over x) ∧ Hid (w'.rowIs g 33 (cap * 8) f) ∧ Hid (ReadsR kept f 0) ∧ Hid (ReadsR (xs.drop j) f j) ∧ Hid (But w w' g)) (fun _ j _ => xs.length - (intOf j).toNat)
    case atStart =>
      refine ⟨i, i + 1, xs.take i, f, by omega, by omega, rfl, by go_num, Lib.hid (by simp; omega), Lib.hid H4.out.symm, HR1, Lib.hid ?_, Lib.hid ?_, N1⟩
      · intro j x hx
        rw [List.getElem?_take] at hx
        split at hx
        · exact HF0.out j x hx
        · cases hx
      · intro j x hx
        rw [List.getElem?_drop] at hx
        have := HF0.out (i + 1 + j) x hx
        simpa using this
    case round =>
      clear H4 q1 hilt HR1 N1
      obtain ⟨i, j, kept, f, hij, hj, rfl, rfl, HK, HE, HR, HF, HD, HB⟩ := hrel
      by_cases hlt : j < xs.length
      · obtain ⟨x, hx, hd⟩ := split_at hlt
        have hD := HD.out; have hE := HE.out
        rw [hd] at hD hE
        have hD0 := hD 0 x rfl
        have HX := Lib.hid (HN.out j x hx)
        have HD' : Hid (ReadsR (xs.drop (j + 1)) f (j + 1)) := Lib.hid (fun k y hy i u hu => by have := hD (k + 1) y (by simpa using hy) i u hu; rwa [show j + (k + 1) = j + 1 + k by omega] at this)
        have r := HR.out
        have rg := r.lt
        have hadd := add_plain g (j * 8)
        have hadd' := add_plain g (i * 8)
        have c0 : wr.cell? ⟨g, j * 8, none⟩ = some (.string x.partner) := by rw [r.cell (by omega), ← hD0 0 _ rfl]; try rfl
        have c1 : wr.cell? ⟨g, j * 8 + 1, none⟩ = some (.string x.ref) := by rw [r.cell (by omega), ← hD0 1 _ rfl]; try rfl
        have c2 : wr.cell? ⟨g, j * 8 + 2, none⟩ = some (.int .i64 x.no) := by rw [r.cell (by omega), ← hD0 2 _ rfl]; try rfl
        have c3 : wr.cell? ⟨g, j * 8 + 3, none⟩ = some (.string x.item) := by rw [r.cell (by omega), ← hD0 3 _ rfl]; try rfl
        have c4 : wr.cell? ⟨g, j * 8 + 4, none⟩ = some (.int .i64 x.ordered) := by rw [r.cell (by omega), ← hD0 4 _ rfl]; try rfl
        have c5 : wr.cell? ⟨g, j * 8 + 5, none⟩ = some (.int .i64 x.sent) := by rw [r.cell (by omega), ← hD0 5 _ rfl]; try rfl
        have c6 : wr.cell? ⟨g, j * 8 + 6, none⟩ = some (.int .i64 x.got) := by rw [r.cell (by omega), ← hD0 6 _ rfl]; try rfl
        have c7 : wr.cell? ⟨g, j * 8 + 7, none⟩ = some (.int .i64 x.cut) := by rw [r.cell (by omega), ← hD0 7 _ rfl]; try rfl
        have HE' := Lib.hid hE
        clear hD hE hx hd hD0 r HE HD
        go_wp2_with fail
        refine (over_calls x _ HX.out).mono ?_
        rintro e w2 ⟨rfl, hb2⟩
        have HL := Lib.hid (below_trans (below_alloc (Below.refl _ _) (.cells #[.string x.partner, .string x.ref, .int .i64 x.no, .string x.item, .int .i64 x.ordered, .int .i64 x.sent, .int .i64 x.got, .int .i64 x.cut] 33)) hb2)
        have HR2 := Lib.hid (HR.out.of_block (HL.out.block g rg))
        have HB2 := Lib.hid (HB.out.trans (But.of_below HL.out g))
        have d0 : w2.cell? ⟨wr.heap.size, 0, none⟩ = some (.string x.partner) := bcell1 hb2 (by go_simp)
        have d1 : w2.cell? ⟨wr.heap.size, 1, none⟩ = some (.string x.ref) := bcell1 hb2 (by go_simp)
        have d2 : w2.cell? ⟨wr.heap.size, 2, none⟩ = some (.int .i64 x.no) := bcell1 hb2 (by go_simp)
        have d3 : w2.cell? ⟨wr.heap.size, 3, none⟩ = some (.string x.item) := bcell1 hb2 (by go_simp)
        have d4 : w2.cell? ⟨wr.heap.size, 4, none⟩ = some (.int .i64 x.ordered) := bcell1 hb2 (by go_simp)
        have d5 : w2.cell? ⟨wr.heap.size, 5, none⟩ = some (.int .i64 x.sent) := bcell1 hb2 (by go_simp)
        have d6 : w2.cell? ⟨wr.heap.size, 6, none⟩ = some (.int .i64 x.got) := bcell1 hb2 (by go_simp)
        have d7 : w2.cell? ⟨wr.heap.size, 7, none⟩ = some (.int .i64 x.cut) := bcell1 hb2 (by go_simp)
        clear c0 c1 c2 c3 c4 c5 c6 c7 hb2
        rcases Bool.eq_false_or_eq_true (over x) with b | b
        · have QB := Lib.hid b; clear b
          rw [QB.out]
          go_wp2
          go_roundw
          case rel => exact ⟨i, j + 1, kept, f, by omega, by omega, rfl, by go_num, HK, Lib.hid (by have := HE'.out; rwa [List.filter_cons, if_neg (by rw [QB.out]; simp)] at this), HR2, HF, HD', HB2⟩
          case measure => simp [intOf]; omega
        · have QB := Lib.hid b; clear b
          rw [QB.out]
          have r2 := HR2.out
          have e0 := r2.cell (i := i * 8) (by omega)
          have e1 := r2.cell (i := i * 8 + 1) (by omega)
          have e2 := r2.cell (i := i * 8 + 2) (by omega)
          have e3 := r2.cell (i := i * 8 + 3) (by omega)
          have e4 := r2.cell (i := i * 8 + 4) (by omega)
          have e5 := r2.cell (i := i * 8 + 5) (by omega)
          have e6 := r2.cell (i := i * 8 + 6) (by omega)
          have e7 := r2.cell (i := i * 8 + 7) (by omega)
          have z0 := r2.frozen (i * 8); have z1 := r2.frozen (i * 8 + 1); have z2 := r2.frozen (i * 8 + 2); have z3 := r2.frozen (i * 8 + 3)
          have z4 := r2.frozen (i * 8 + 4); have z5 := r2.frozen (i * 8 + 5); have z6 := r2.frozen (i * 8 + 6); have z7 := r2.frozen (i * 8 + 7)
          have hin : i < xs.length := by omega
          clear r2
          go_wp2
          go_roundw
          case rel =>
            refine ⟨i + 1, j + 1, kept ++ [x], _, by omega, by omega, by go_num, by go_num, Lib.hid (by rw [List.length_append, HK.out]; rfl), Lib.hid (by have := HE'.out; rw [List.filter_cons, if_pos (by rw [QB.out]; rfl)] at this; rw [← this, List.append_assoc]; rfl),
              Lib.hid ((((((((HR2.out.set (i * 8) _).set (i * 8 + 1) _).set (i * 8 + 2) _).set (i * 8 + 3) _).set (i * 8 + 4) _).set (i * 8 + 5) _).set (i * 8 + 6) _).set (i * 8 + 7) _), Lib.hid ?_, Lib.hid ?_,
              Lib.hid ((((((((HB2.out.set (i * 8) _).set (i * 8 + 1) _).set (i * 8 + 2) _).set (i * 8 + 3) _).set (i * 8 + 4) _).set (i * 8 + 5) _).set (i * 8 + 6) _).set (i * 8 + 7) _)⟩
            · intro a y hy q u hu
              have hq : q < 8 := (List.getElem?_eq_some_iff.1 hu).1
              have hk := HK.out
              rcases Nat.lt_or_ge a i with hai | hai
              · rw [List.getElem?_append_left (by omega)] at hy
                have hle : (0 + a) * 8 + q < i * 8 := by omega
                simp only [if_neg (show ¬ (0 + a) * 8 + q = i * 8 by omega), if_neg (show ¬ (0 + a) * 8 + q = i * 8 + 1 by omega), if_neg (show ¬ (0 + a) * 8 + q = i * 8 + 2 by omega), if_neg (show ¬ (0 + a) * 8 + q = i * 8 + 3 by omega), if_neg (show ¬ (0 + a) * 8 + q = i * 8 + 4 by omega), if_neg (show ¬ (0 + a) * 8 + q = i * 8 + 5 by omega), if_neg (show ¬ (0 + a) * 8 + q = i * 8 + 6 by omega), if_neg (show ¬ (0 + a) * 8 + q = i * 8 + 7 by omega)]
                exact HF.out a y hy q u hu
              · have hlen : a < (kept ++ [x]).length := (List.getElem?_eq_some_iff.1 hy).1
                simp at hlen
                obtain rfl : a = i := by omega
                rw [List.getElem?_append_right (by omega), hk, Nat.sub_self] at hy
                obtain rfl : x = y := by simpa using hy
                rw [Nat.zero_add]
                match q, hq, hu with
                | 0, _, hu => simp at hu; simp [hu]
                | 1, _, hu => simp at hu; simp [hu]
                | 2, _, hu => simp at hu; simp [hu]
                | 3, _, hu => simp at hu; simp [hu]
                | 4, _, hu => simp at hu; simp [hu]
                | 5, _, hu => simp at hu; simp [hu]
                | 6, _, hu => simp at hu; simp [hu]
                | 7, _, hu => simp at hu; simp [hu]
            · intro a y hy q u hu
              have hle : i * 8 + 8 ≤ (j + 1 + a) * 8 + q := by omega
              simp only [if_neg (show ¬ (j + 1 + a) * 8 + q = i * 8 by omega), if_neg (show ¬ (j + 1 + a) * 8 + q = i * 8 + 1 by omega), if_neg (show ¬ (j + 1 + a) * 8 + q = i * 8 + 2 by omega), if_neg (show ¬ (j + 1 + a) * 8 + q = i * 8 + 3 by omega), if_neg (show ¬ (j + 1 + a) * 8 + q = i * 8 + 4 by omega), if_neg (show ¬ (j + 1 + a) * 8 + q = i * 8 + 5 by omega), if_neg (show ¬ (j + 1 + a) * 8 + q = i * 8 + 6 by omega), if_neg (show ¬ (j + 1 + a) * 8 + q = i * 8 + 7 by omega)]
              exact HD'.out a y hy q u hu
          case measure => simp [intOf]; omega
      · obtain rfl : j = xs.length := by omega
        have hE := HE.out
        rw [List.drop_length, List.filter_nil, List.append_nil] at hE
        have HE' := Lib.hid hE
        have r := HR.out
        have hadd := add_plain g (i * 8)
        have hkl := HK.out
        obtain ⟨L, hL⟩ : ∃ L, (Builtin.zeroCells (Value.agg #[.string ⟨#[]⟩, .string ⟨#[]⟩, .int .i64 0, .string ⟨#[]⟩, .int .i64 0, .int .i64 0, .int .i64 0, .int .i64 0]).cells (xs.length - i)).toList = L := ⟨_, rfl⟩
        have hLl : L.length = (xs.length - i) * 8 := by rw [← hL]; simp [Builtin.zeroCells, Value.cells]
        have hL1 : ∀ v ∈ L, v.oneCell' = true := by
          rw [← hL]
          intro v hv
          simp only [Builtin.zeroCells, Value.cells, Array.toList_map, List.mem_map] at hv
          obtain ⟨q, _, rfl⟩ := hv
          have hq : q % 8 < 8 := Nat.mod_lt _ (by omega)
          generalize hm : q % 8 = m at hq
          match m, hq with
          | 0, _ => rfl
          | 1, _ => rfl
          | 2, _ => rfl
          | 3, _ => rfl
          | 4, _ => rfl
          | 5, _ => rfl
          | 6, _ => rfl
          | 7, _ => rfl
        have hclr := fun ty c' => run_clear_row (P := Try.prog) wr 38 33 ty _ Try.underlying38 (fun W => Try.zeroValue33 W) g (i * 8) (xs.length - i) c' (by omega) L hL hL1 (fun k hk => by rw [r.cell (by omega)]; rfl) (fun k hk => r.frozen _)
        clear hE hL hL1 hLl HD HE r
        go_wp2
        go_ret
        obtain ⟨f', h1, h2⟩ := World.rowIs.setCells L (i * 8) wr f HR.out
        rw [← HE'.out, hkl]
        refine ⟨f', rfl, h1, fun a y hy q u hu => ?_, But.setCells L _ _ _ HB.out⟩
        have hq : q < 8 := (List.getElem?_eq_some_iff.1 hu).1
        have ha : a < kept.length := (List.getElem?_eq_some_iff.1 hy).1
        rw [h2 _ (by omega)]
        exact HF.out a y hy q u hu
set_option maxHeartbeats 1000000 in
theorem delete_nil (w : World) : Calls Try.prog 68 #[.slice none 0 0, .func (.func 69) #[] #[]] w fun e w' => e = .returned (.slice none 0 0) ∧ Below w.heap.size w w' := by
  go_enter Try.func68, Try.ntmps68
  go_wp2_with fail
  refine (idxOver_calls [] _ _ rows_nil (fun k x h => by simp at h)).mono ?_
  rintro e w1 ⟨rfl, hb1⟩
  have HB := Lib.hid hb1; clear hb1
  rw [idxOver]
  go_wp2
  go_ret
  exact ⟨rfl, HB.out⟩
end Go.Proofs.Ytplkgcoeeohbnaa.T
