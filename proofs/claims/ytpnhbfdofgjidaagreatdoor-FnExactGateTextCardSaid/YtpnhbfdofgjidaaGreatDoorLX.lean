/- LinesText of impl and of spec; the law FnExactLinesText. -/
import Derived.Test.YtpnhbfdofgjidaaGreatDoorTX
import Derived.Test.YtpnhbfdofgjidaaGreatDoorOP
import Derived.Test.YtpnhbfdofgjidaaGreatDoorLT
namespace Go.Proofs.YtpnhbfdofgjidaaGreatDoor.T
open Go.RowKit
def onL (p : ByteArray) (l : OrderLine) : Bool := ofP l p && (decide (l.cut < l.ordered - l.sent) || decide (l.got < l.sent))
abbrev tOrdered : ByteArray := ⟨#[111, 114, 100, 101, 114, 101, 100]⟩
abbrev tSent : ByteArray := ⟨#[115, 101, 110, 116]⟩
abbrev tGot : ByteArray := ⟨#[103, 111, 116]⟩
abbrev tCut : ByteArray := ⟨#[99, 117, 116]⟩
def LineText (l : OrderLine) : ByteArray := l.partner ++ tSp ++ l.ref ++ tSp ++ dec l.no ++ tSp ++ l.item ++ ⟨#[32, 111, 114, 100, 101, 114, 101, 100, 32]⟩ ++ dec l.ordered ++ ⟨#[32, 115, 101, 110, 116, 32]⟩ ++ dec l.sent ++ ⟨#[32, 103, 111, 116, 32]⟩ ++ dec l.got ++ ⟨#[32, 99, 117, 116, 32]⟩ ++ dec l.cut ++ tNl
abbrev lineWords (l : OrderLine) : List ByteArray := [l.partner, l.ref, dec l.no, l.item, tOrdered, dec l.ordered, tSent, dec l.sent, tGot, dec l.got, tCut, dec l.cut]
theorem LineText_said (l : OrderLine) : saidF (lineWords l) = LineText l := by
  have e1 : (⟨#[32, 111, 114, 100, 101, 114, 101, 100, 32]⟩ : ByteArray) = tSp ++ tOrdered ++ tSp := by decide +kernel
  have e2 : (⟨#[32, 115, 101, 110, 116, 32]⟩ : ByteArray) = tSp ++ tSent ++ tSp := by decide +kernel
  have e3 : (⟨#[32, 103, 111, 116, 32]⟩ : ByteArray) = tSp ++ tGot ++ tSp := by decide +kernel
  have e4 : (⟨#[32, 99, 117, 116, 32]⟩ : ByteArray) = tSp ++ tCut ++ tSp := by decide +kernel
  unfold LineText
  rw [e1, e2, e3, e4]
  simp only [saidF, lineWords, joinS_cons, joinS_one, ByteArray.append_assoc]
def stepL (p : ByteArray) (t : ByteArray) (l : OrderLine) : ByteArray := if onL p l then t ++ LineText l else t
def linesText (xs : List OrderLine) (p : ByteArray) : ByteArray := xs.foldl (stepL p) ⟨#[]⟩
def LinesText (b : Book) (p : ByteArray) : ByteArray := if 20000 < p.size then ⟨#[]⟩ else if BookRight b then linesText b.lines p else ⟨#[]⟩
theorem LineRight.decs {l : OrderLine} (h : LineRight l = true) : (dec l.no).size ≤ 20 ∧ (dec l.ordered).size ≤ 20 ∧ (dec l.sent).size ≤ 20 ∧ (dec l.got).size ≤ 20 ∧ (dec l.cut).size ≤ 20 := by
  have := LineRight.nums h
  unfold LineNums at this
  exact ⟨dec_size (by omega) (by omega), dec_size (by omega) (by omega), dec_size (by omega) (by omega), dec_size (by omega) (by omega), dec_size (by omega) (by omega)⟩
theorem line64 {l : OrderLine} (h : LineRight l = true) : -9223372036854775808 ≤ l.no ∧ l.no ≤ 9223372036854775807 ∧ -9223372036854775808 ≤ l.ordered ∧ l.ordered ≤ 9223372036854775807 ∧ -9223372036854775808 ≤ l.sent ∧ l.sent ≤ 9223372036854775807 ∧ -9223372036854775808 ≤ l.got ∧ l.got ≤ 9223372036854775807 ∧ -9223372036854775808 ≤ l.cut ∧ l.cut ≤ 9223372036854775807 := by
  have := LineRight.nums h
  unfold LineNums at this
  omega
theorem LineText_size {l : OrderLine} (h : LineRight l = true) : (LineText l).size ≤ 200 := by
  have h1 := LineRight.names h
  have h2 := LineRight.decs h
  unfold LineText
  simp only [ByteArray.size_append, show tSp.size = 1 from rfl, show tNl.size = 1 from rfl, show (⟨#[32, 111, 114, 100, 101, 114, 101, 100, 32]⟩ : ByteArray).size = 9 from rfl, show (⟨#[32, 115, 101, 110, 116, 32]⟩ : ByteArray).size = 6 from rfl, show (⟨#[32, 103, 111, 116, 32]⟩ : ByteArray).size = 5 from rfl, show (⟨#[32, 99, 117, 116, 32]⟩ : ByteArray).size = 5 from rfl]
  omega
theorem line_box {x : OrderLine} {w w' : World} {T : TypeId} (hb : Below (w.alloc (.cells #[.string x.partner, .string x.ref, .int .i64 x.no, .string x.item, .int .i64 x.ordered, .int .i64 x.sent, .int .i64 x.got, .int .i64 x.cut] T)).heap.size (w.alloc (.cells #[.string x.partner, .string x.ref, .int .i64 x.no, .string x.item, .int .i64 x.ordered, .int .i64 x.sent, .int .i64 x.got, .int .i64 x.cut] T)) w') :
    w'.cell? ⟨w.heap.size, 0, none⟩ = some (.string x.partner) ∧ w'.cell? ⟨w.heap.size, 1, none⟩ = some (.string x.ref) ∧ w'.cell? ⟨w.heap.size, 2, none⟩ = some (.int .i64 x.no) ∧ w'.cell? ⟨w.heap.size, 3, none⟩ = some (.string x.item) ∧ w'.cell? ⟨w.heap.size, 4, none⟩ = some (.int .i64 x.ordered) ∧ w'.cell? ⟨w.heap.size, 5, none⟩ = some (.int .i64 x.sent) ∧ w'.cell? ⟨w.heap.size, 6, none⟩ = some (.int .i64 x.got) ∧ w'.cell? ⟨w.heap.size, 7, none⟩ = some (.int .i64 x.cut) ∧ Below (w.alloc (.cells #[.string x.partner, .string x.ref, .int .i64 x.no, .string x.item, .int .i64 x.ordered, .int .i64 x.sent, .int .i64 x.got, .int .i64 x.cut] T)).heap.size (w.alloc (.cells #[.string x.partner, .string x.ref, .int .i64 x.no, .string x.item, .int .i64 x.ordered, .int .i64 x.sent, .int .i64 x.got, .int .i64 x.cut] T)) w' :=
  ⟨bcell1 hb (by go_simp), bcell1 hb (by go_simp), bcell1 hb (by go_simp), bcell1 hb (by go_simp), bcell1 hb (by go_simp), bcell1 hb (by go_simp), bcell1 hb (by go_simp), bcell1 hb (by go_simp), hb⟩
set_option maxHeartbeats 8000000 in
set_option maxRecDepth 100000 in
theorem i_linesText (xs : List OrderLine) (g : Nat) {fo : Nat} (vl : Value) (p : ByteArray) (w : World) (hg : w.cell? ⟨g, fo + 1, none⟩ = some vl) (hv : Rows OrderLine.cs 8 w vl xs) (hr : LinesRight xs = true) (ht : Tab w) :
    Calls Tryz.prog 44 #[.pointer (some ⟨g, fo, none⟩), .string p] w fun e w' => e = .returned (.string (linesText xs p)) ∧ Below w.heap.size w w' := by
  obtain ⟨A, c, rfl, hc, h63, hrow⟩ := hv
  have HW := Lib.hid hrow; have HRI := Lib.hid (LinesRight_right hr); have HT := Lib.hid ht
  have hlen := LinesRight_len hr
  clear hrow hr ht
  go_enter Tryz.func44, Tryz.ntmps44
  go_wp2
  go_loopw [5, 7, 13] (fun t _ i w' => ∃ (k : Nat) (s : ByteArray), k ≤ xs.length ∧ i = .int .i64 k ∧ t = .string s ∧ s.size ≤ 200 * k ∧ (xs.drop k).foldl (stepL p) s = linesText xs p ∧ Below w.heap.size w w') (fun _ _ i _ => xs.length - (intOf i).toNat)
  case atStart => exact ⟨0, ⟨#[]⟩, Nat.zero_le _, rfl, rfl, Nat.zero_le _, rfl, Below.refl _ _⟩
  case round =>
    obtain ⟨k, s, hk, rfl, rfl, hz, hr, hb⟩ := hrel
    have HB := Lib.hid hb; clear hb
    by_cases hlt : k < xs.length
    · obtain ⟨x, hx, hd⟩ := split_at hlt
      obtain ⟨ad, rfl, hcell⟩ := HW.out k x hx
      have HX := Lib.hid (HRI.out k x hx)
      have HN := Lib.hid (LineRight.nums HX.out)
      have hdz := LineText_size HX.out
      have hnn := LineRight.nums HX.out
      unfold LineNums at hnn
      obtain ⟨⟨n1, n2⟩, ⟨o1, o2⟩, ⟨s1, s2⟩, ⟨g1, g2⟩, ⟨u1, u2⟩⟩ := hnn
      have ⟨m1, m2, m3, m4, m5, m6, m7, m8, m9, m10⟩ := line64 HX.out
      rw [hd, List.foldl_cons] at hr
      have HRR := Lib.hid hr; clear hr hx hd
      obtain ⟨c0, c1, c2, c3, c4, c5, c6, c7⟩ := (hcell.below HB.out).eight
      clear hcell
      have HB1 := Lib.hid (below_alloc HB.out (.cells #[.string x.partner, .string x.ref, .int .i64 x.no, .string x.item, .int .i64 x.ordered, .int .i64 x.sent, .int .i64 x.got, .int .i64 x.cut] 92))
      have HT1 := Lib.hid (HT.out.below HB1.out)
      by_cases hon : onL p x = true
      · have HE := Lib.hid (show s ++ saidF (lineWords x) = stepL p s x by rw [LineText_said, stepL, if_pos hon])
        have HG := Lib.hid (show (s ++ LineText x).size ≤ 200 * (k + 1) by rw [ByteArray.size_append]; omega)
        have HZ := Lib.hid (show (joinS (lineWords x)).size ≤ 140737488355328 by have := ByteArray.size_append (a := joinS (lineWords x)) (b := tNl); have h2 := congrArg ByteArray.size (LineText_said x); unfold saidF at h2; omega)
        have q2 : (9223372036854775807 < s.size + (saidF (lineWords x)).size) = False := eq_false (by rw [LineText_said]; omega)
        have HS2 := Lib.hid (LineText_said x)
        have ho1 : ofP x p = true := by unfold onL at hon; rw [Bool.and_eq_true] at hon; exact hon.1
        have ho2 : decide (x.cut < x.ordered - x.sent) = true ∨ (decide (x.cut < x.ordered - x.sent) = false ∧ decide (x.got < x.sent) = true) := by
          unfold onL at hon; rw [Bool.and_eq_true, Bool.or_eq_true] at hon
          rcases hon.2 with h | h
          · exact .inl h
          · cases h3 : decide (x.cut < x.ordered - x.sent)
            · exact .inr ⟨rfl, h⟩
            · exact .inl rfl
        clear hon
        rcases ho2 with h1 | ⟨h1, h2⟩
        all_goals
          go_wp2_with (first
            | (go_at_call 88; refine (i_isOf x _ _ _ (by go_simp)).mono ?_; rintro e w6 ⟨rfl, rfl⟩)
            | (go_at_call 89; refine (i_open x _ _ (by go_simp) (by go_simp) (by go_simp) HN.out).mono ?_; rintro e w1 ⟨rfl, n, rfl⟩)
            | (go_at_call 90; refine (i_transit x _ _ (by go_simp) (by go_simp) HN.out).mono ?_; rintro e w1 ⟨rfl, n, rfl⟩))
          go_region_held3 (fun w' => w'.cell? ⟨wr.heap.size, 0, none⟩ = some (.string x.partner) ∧ w'.cell? ⟨wr.heap.size, 1, none⟩ = some (.string x.ref) ∧ w'.cell? ⟨wr.heap.size, 2, none⟩ = some (.int .i64 x.no) ∧ w'.cell? ⟨wr.heap.size, 3, none⟩ = some (.string x.item) ∧ w'.cell? ⟨wr.heap.size, 4, none⟩ = some (.int .i64 x.ordered) ∧ w'.cell? ⟨wr.heap.size, 5, none⟩ = some (.int .i64 x.sent) ∧ w'.cell? ⟨wr.heap.size, 6, none⟩ = some (.int .i64 x.got) ∧ w'.cell? ⟨wr.heap.size, 7, none⟩ = some (.int .i64 x.cut) ∧ Below (wr.alloc (.cells #[.string x.partner, .string x.ref, .int .i64 x.no, .string x.item, .int .i64 x.ordered, .int .i64 x.sent, .int .i64 x.got, .int .i64 x.cut] 92)).heap.size (wr.alloc (.cells #[.string x.partner, .string x.ref, .int .i64 x.no, .string x.item, .int .i64 x.ordered, .int .i64 x.sent, .int .i64 x.got, .int .i64 x.cut] 92)) w') (exact line_box (by first | exact below_alloc (by assumption) _ | (repeat (first | assumption | exact Below.refl _ _ | apply below_drewN | apply below_drew))))
            (first
              | (go_at_call 43; refine (decimal_calls _ _ (by assumption) (by assumption) (HT1.out.below (by repeat (first | assumption | exact Below.refl _ _ | apply below_drewN | apply below_drew)))).mono ?_; rintro e w6 ⟨rfl, hb6⟩; have h6 := below_trans (show Below (wr.alloc (.cells #[.string x.partner, .string x.ref, .int .i64 x.no, .string x.item, .int .i64 x.ordered, .int .i64 x.sent, .int .i64 x.got, .int .i64 x.cut] 92)).heap.size (wr.alloc (.cells #[.string x.partner, .string x.ref, .int .i64 x.no, .string x.item, .int .i64 x.ordered, .int .i64 x.sent, .int .i64 x.got, .int .i64 x.cut] 92)) _ from (by repeat (first | assumption | exact Below.refl _ _ | apply below_drewN | apply below_drew))) hb6)
              | (go_at_call 42; refine (said_calls _ _ _ (rowsT_lit (xs := lineWords x) rfl rfl (by simp)) HZ.out (by simp)).mono ?_; rintro e w7 ⟨rfl, hb7⟩; have h7 := below_trans (below_alloc (by assumption) _) hb7))
          go_wp2
          go_roundw
          case rel => exact ⟨k + 1, _, by omega, by go_num, rfl, by rw [HS2.out]; exact HG.out, by rw [HE.out]; exact HRR.out, below_trans HB1.out (by assumption)⟩
          case measure => simp [intOf]; omega
      · have HE := Lib.hid (show s = stepL p s x by rw [stepL, if_neg hon])
        have ho : ofP x p = false ∨ (ofP x p = true ∧ decide (x.cut < x.ordered - x.sent) = false ∧ decide (x.got < x.sent) = false) := by
          unfold onL at hon
          revert hon
          cases ofP x p <;> cases decide (x.cut < x.ordered - x.sent) <;> cases decide (x.got < x.sent) <;> simp
        clear hon hdz
        rcases ho with h1 | ⟨h1, h2, h3⟩
        all_goals
          go_wp2_with (first
            | (go_at_call 88; refine (i_isOf x _ _ _ (by go_simp)).mono ?_; rintro e w6 ⟨rfl, rfl⟩)
            | (go_at_call 89; refine (i_open x _ _ (by go_simp) (by go_simp) (by go_simp) HN.out).mono ?_; rintro e w1 ⟨rfl, n, rfl⟩)
            | (go_at_call 90; refine (i_transit x _ _ (by go_simp) (by go_simp) HN.out).mono ?_; rintro e w1 ⟨rfl, n, rfl⟩))
          go_roundw
          case rel => exact ⟨k + 1, s, by omega, by go_num, rfl, by omega, by have := HRR.out; rw [← HE.out] at this; exact this, by repeat (first | exact HB1.out | apply below_drewN | apply below_drew)⟩
          case measure => simp [intOf]; omega
    · have hd : xs.drop k = [] := List.drop_of_length_le (by omega)
      rw [hd] at hr
      have HRR := Lib.hid hr; clear hr hd
      go_wp2
      go_ret
      exact ⟨ret_str HRR.out, HB.out⟩
set_option maxHeartbeats 8000000 in
set_option maxRecDepth 100000 in
theorem s_LinesText (b : Book) (v : Value) (p : ByteArray) (w : World) (hv : BookV w v b) (hs : b.ok) :
    Calls Tryz.prog 34 #[v, .string p] w fun e w' => e = .returned (.string (LinesText b p)) ∧ Below w.heap.size w w' := by
  have HV := Lib.hid hv
  obtain ⟨vs, vl, rfl, hvs, hvl⟩ := hv
  have HO := Lib.hid hs; have HL := Lib.hid hvl; clear hs hvs
  by_cases hp : 20000 < p.size
  · have HF := Lib.hid (show LinesText b p = ⟨#[]⟩ by rw [LinesText, if_pos hp])
    clear hvl
    go_enter Tryz.func34, Tryz.ntmps34
    go_wp2
    go_ret
    exact ⟨ret_str HF.out.symm, below_alloc (Below.refl _ _) _⟩
  · rcases Bool.eq_false_or_eq_true (BookRight b) with hr | hr
    rotate_left
    · have HF := Lib.hid (show LinesText b p = ⟨#[]⟩ by rw [LinesText, if_neg hp, hr]; rfl)
      have HR := Lib.hid hr; clear hr hvl
      go_enter Tryz.func34, Tryz.ntmps34
      go_wp2_with (go_at_call 17; refine (s_BookRight _ _ _ (HV.out.below (below_alloc (Below.refl _ _) _)) HO.out).mono ?_; rintro e w2 ⟨rfl, hb2⟩; rw [HR.out]; have B2 := Lib.hid (below_trans (below_alloc (Below.refl _ _) _) hb2); clear hb2)
      go_ret
      exact ⟨ret_str HF.out.symm, B2.out⟩
    · have HF := Lib.hid (show LinesText b p = linesText b.lines p by rw [LinesText, if_neg hp, hr]; rfl)
      have HRI := Lib.hid (LinesRight_right (BookRight_lines hr))
      have hlen := LinesRight_len (BookRight_lines hr)
      have HR := Lib.hid hr; clear hr
      obtain ⟨A, c, rfl, hc, h63, hrow⟩ := hvl
      have HW := Lib.hid hrow; clear hrow
      go_enter Tryz.func34, Tryz.ntmps34
      go_wp2_with (go_at_call 17; refine (s_BookRight _ _ _ (HV.out.below (below_alloc (Below.refl _ _) _)) HO.out).mono ?_; rintro e w2 ⟨rfl, hb2⟩; rw [HR.out]; have B2 := Lib.hid (below_trans (below_alloc (Below.refl _ _) _) hb2); have C2 := Lib.hid (bcell1 (a := ⟨w.heap.size, 1, none⟩) (v := .slice A b.lines.length c) hb2 (by go_simp)); clear hb2)
      go_loopw [5, 6, 7] (fun t i _ w' => ∃ (k : Nat) (s : ByteArray), k ≤ b.lines.length ∧ i = .int .i64 k ∧ t = .string s ∧ s.size ≤ 200 * k ∧ (b.lines.drop k).foldl (stepL p) s = linesText b.lines p ∧ Below w2.heap.size w2 w') (fun _ i _ _ => b.lines.length - (intOf i).toNat)
      case atStart => exact ⟨0, ⟨#[]⟩, Nat.zero_le _, rfl, rfl, Nat.zero_le _, rfl, Below.refl _ _⟩
      case round =>
        obtain ⟨k, s, hk, rfl, rfl, hz, hr, hb⟩ := hrel
        have HB := Lib.hid hb
        have cg := bcell1 hb C2.out; clear hb
        by_cases hlt : k < b.lines.length
        · obtain ⟨x, hx, hd⟩ := split_at hlt
          obtain ⟨ad, rfl, hcell⟩ := HW.out k x hx
          have HX := Lib.hid (HRI.out k x hx)
          have hdz := LineText_size HX.out
          have hnn := LineRight.nums HX.out
          unfold LineNums at hnn
          obtain ⟨⟨n1, n2⟩, ⟨o1, o2⟩, ⟨s1, s2⟩, ⟨g1, g2⟩, ⟨u1, u2⟩⟩ := hnn
          have ⟨m1, m2, m3, m4, m5, m6, m7, m8, m9, m10⟩ := line64 HX.out
          have HSTR := Lib.hid (show x.strs by have := LineRight.names HX.out; exact ⟨by omega, by omega, by omega⟩)
          rw [hd, List.foldl_cons] at hr
          have HRR := Lib.hid hr; clear hr hx hd
          obtain ⟨c0, c1, c2, c3, c4, c5, c6, c7⟩ := ((hcell.below B2.out).below HB.out).eight
          clear hcell
          have HB1 := Lib.hid (below_alloc HB.out (.cells #[.string x.partner, .string x.ref, .int .i64 x.no, .string x.item, .int .i64 x.ordered, .int .i64 x.sent, .int .i64 x.got, .int .i64 x.cut] 92))
          have hsum : IntKind.i64.wrap (x.ordered - x.sent - x.cut + (x.sent - x.got)) = x.ordered - x.sent - x.cut + (x.sent - x.got) := IntWalk.i64_in _ (by omega)
          have hwr : (p.toList.isEmpty = true ∧ Hid (ofP x p = true)) ∨ (p.toList.isEmpty = false ∧ (x.partner.toList == p.toList) = true ∧ Hid (ofP x p = true)) ∨ (p.toList.isEmpty = false ∧ (x.partner.toList == p.toList) = false ∧ Hid (ofP x p = false)) := by
            unfold Hid ofP
            cases h1 : p.toList.isEmpty
            · by_cases h2 : x.partner.toList = p.toList
              · exact .inr (.inl ⟨rfl, by simp [h2], by simp [h2]⟩)
              · exact .inr (.inr ⟨rfl, by simpa using h2, by simpa using h2⟩)
            · exact .inl ⟨rfl, rfl⟩
          have h0 : (x.ordered - x.sent - x.cut + (x.sent - x.got) = 0 ∧ decide (x.cut < x.ordered - x.sent) = false ∧ decide (x.got < x.sent) = false) ∨ (¬ (x.ordered - x.sent - x.cut + (x.sent - x.got) = 0) ∧ (decide (x.cut < x.ordered - x.sent) || decide (x.got < x.sent)) = true) := by
            by_cases h : x.ordered - x.sent - x.cut + (x.sent - x.got) = 0
            · exact .inl ⟨h, decide_eq_false (by omega), decide_eq_false (by omega)⟩
            · refine .inr ⟨h, ?_⟩
              rw [Bool.or_eq_true, decide_eq_true_eq, decide_eq_true_eq]
              omega
          have skip : ∀ (hon : onL p x = false), s = stepL p s x := fun hon => by rw [stepL, hon]; rfl
          have HSK := Lib.hid skip; clear skip
          rcases hwr with ⟨w1, hof⟩ | ⟨w1, w2', hof⟩ | ⟨w1, w2', hof⟩
          iterate 2
            rcases h0 with ⟨h1, h2, h3⟩ | ⟨h1, h2⟩
            · have e1 : (x.ordered - x.sent - x.cut + (x.sent - x.got) == 0) = true := by simp [h1]
              have HON := Lib.hid (HSK.out (by unfold onL; rw [hof.out, h2, h3]; rfl))
              clear h1 h2 h3
              go_wp2
              have nw := fun (o : Obj) (s : Ext (wr.alloc o)) (i : Nat) => s.new i
              refine wp_region_ext (by kernel_rfl) (by kernel_rfl) ?_
              repeat (go_big_quiet_step ((first | (go_at_call 56; with_reducible exact ext_call (s_LineOpen x _ HSTR.out HX.out)) | (go_at_call 57; with_reducible exact ext_call (s_LineTransit x _ HSTR.out HX.out)))))
              refine wpQuiet_nil ?_
              rintro _ ⟨e1', rfl⟩
              have h6 := e1'.h
              clear nw
              go_wp2
              go_roundw
              case rel => exact ⟨k + 1, s, by omega, by go_num, rfl, by omega, by have := HRR.out; rw [← HON.out] at this; exact this, below_trans HB1.out (by assumption)⟩
              case measure => simp [intOf]; omega
            · have e1 : (x.ordered - x.sent - x.cut + (x.sent - x.got) == 0) = false := by simp [h1]
              have HON := Lib.hid (show s ++ LineText x = stepL p s x by rw [stepL, if_pos (by unfold onL; rw [hof.out, h2]; rfl)])
              have HG := Lib.hid (show (s ++ LineText x).size ≤ 200 * (k + 1) by rw [ByteArray.size_append]; omega)
              obtain ⟨z1, z2, z3⟩ := LineRight.names HX.out
              obtain ⟨y1, y2, y3, y4, y5⟩ := LineRight.decs HX.out
              clear h1 h2
              have HE := Lib.hid (show s ++ x.partner ++ tSp ++ x.ref ++ tSp ++ dec x.no ++ tSp ++ x.item ++ ⟨#[32, 111, 114, 100, 101, 114, 101, 100, 32]⟩ ++ dec x.ordered ++ ⟨#[32, 115, 101, 110, 116, 32]⟩ ++ dec x.sent ++ ⟨#[32, 103, 111, 116, 32]⟩ ++ dec x.got ++ ⟨#[32, 99, 117, 116, 32]⟩ ++ dec x.cut ++ tNl = s ++ LineText x by unfold LineText; simp only [ByteArray.append_assoc])
              have q2 : (9223372036854775807 < s.size + x.partner.size) = False := eq_false (by omega)
              have q3 : (9223372036854775807 < s.size + x.partner.size + 1) = False := eq_false (by omega)
              have q4 : (9223372036854775807 < s.size + x.partner.size + 1 + x.ref.size) = False := eq_false (by omega)
              have q5 : (9223372036854775807 < s.size + x.partner.size + 1 + x.ref.size + 1) = False := eq_false (by omega)
              have q6 : (9223372036854775807 < s.size + x.partner.size + 1 + x.ref.size + 1 + (dec x.no).size) = False := eq_false (by omega)
              have q7 : (9223372036854775807 < s.size + x.partner.size + 1 + x.ref.size + 1 + (dec x.no).size + 1) = False := eq_false (by omega)
              have q8 : (9223372036854775807 < s.size + x.partner.size + 1 + x.ref.size + 1 + (dec x.no).size + 1 + x.item.size) = False := eq_false (by omega)
              have q9 : (9223372036854775807 < s.size + x.partner.size + 1 + x.ref.size + 1 + (dec x.no).size + 1 + x.item.size + 9) = False := eq_false (by omega)
              have q10 : (9223372036854775807 < s.size + x.partner.size + 1 + x.ref.size + 1 + (dec x.no).size + 1 + x.item.size + 9 + (dec x.ordered).size) = False := eq_false (by omega)
              have q11 : (9223372036854775807 < s.size + x.partner.size + 1 + x.ref.size + 1 + (dec x.no).size + 1 + x.item.size + 9 + (dec x.ordered).size + 6) = False := eq_false (by omega)
              have q12 : (9223372036854775807 < s.size + x.partner.size + 1 + x.ref.size + 1 + (dec x.no).size + 1 + x.item.size + 9 + (dec x.ordered).size + 6 + (dec x.sent).size) = False := eq_false (by omega)
              have q13 : (9223372036854775807 < s.size + x.partner.size + 1 + x.ref.size + 1 + (dec x.no).size + 1 + x.item.size + 9 + (dec x.ordered).size + 6 + (dec x.sent).size + 5) = False := eq_false (by omega)
              have q14 : (9223372036854775807 < s.size + x.partner.size + 1 + x.ref.size + 1 + (dec x.no).size + 1 + x.item.size + 9 + (dec x.ordered).size + 6 + (dec x.sent).size + 5 + (dec x.got).size) = False := eq_false (by omega)
              have q15 : (9223372036854775807 < s.size + x.partner.size + 1 + x.ref.size + 1 + (dec x.no).size + 1 + x.item.size + 9 + (dec x.ordered).size + 6 + (dec x.sent).size + 5 + (dec x.got).size + 5) = False := eq_false (by omega)
              have q16 : (9223372036854775807 < s.size + x.partner.size + 1 + x.ref.size + 1 + (dec x.no).size + 1 + x.item.size + 9 + (dec x.ordered).size + 6 + (dec x.sent).size + 5 + (dec x.got).size + 5 + (dec x.cut).size) = False := eq_false (by omega)
              have q17 : (9223372036854775807 < s.size + x.partner.size + 1 + x.ref.size + 1 + (dec x.no).size + 1 + x.item.size + 9 + (dec x.ordered).size + 6 + (dec x.sent).size + 5 + (dec x.got).size + 5 + (dec x.cut).size + 1) = False := eq_false (by omega)
              go_wp2
              have nw := fun (o : Obj) (s : Ext (wr.alloc o)) (i : Nat) => s.new i
              refine wp_region_ext (by kernel_rfl) (by kernel_rfl) ?_
              repeat (go_big_quiet_step ((first | (go_at_call 56; with_reducible exact ext_call (s_LineOpen x _ HSTR.out HX.out)) | (go_at_call 57; with_reducible exact ext_call (s_LineTransit x _ HSTR.out HX.out)))))
              refine wpQuiet_nil ?_
              rintro _ ⟨e1', rfl⟩
              have h6 := e1'.h
              clear nw
              go_wp2
              go_region_held3 (fun w' => w'.cell? ⟨wr.heap.size, 0, none⟩ = some (.string x.partner) ∧ w'.cell? ⟨wr.heap.size, 1, none⟩ = some (.string x.ref) ∧ w'.cell? ⟨wr.heap.size, 2, none⟩ = some (.int .i64 x.no) ∧ w'.cell? ⟨wr.heap.size, 3, none⟩ = some (.string x.item) ∧ w'.cell? ⟨wr.heap.size, 4, none⟩ = some (.int .i64 x.ordered) ∧ w'.cell? ⟨wr.heap.size, 5, none⟩ = some (.int .i64 x.sent) ∧ w'.cell? ⟨wr.heap.size, 6, none⟩ = some (.int .i64 x.got) ∧ w'.cell? ⟨wr.heap.size, 7, none⟩ = some (.int .i64 x.cut) ∧ Below (wr.alloc (.cells #[.string x.partner, .string x.ref, .int .i64 x.no, .string x.item, .int .i64 x.ordered, .int .i64 x.sent, .int .i64 x.got, .int .i64 x.cut] 92)).heap.size (wr.alloc (.cells #[.string x.partner, .string x.ref, .int .i64 x.no, .string x.item, .int .i64 x.ordered, .int .i64 x.sent, .int .i64 x.got, .int .i64 x.cut] 92)) w') (exact line_box (by repeat (first | assumption | exact Below.refl _ _ | apply below_drewN | apply below_drew)))
                (first
                  | (go_at_call 19; refine (s_l01Dec _ _ (by assumption) (by assumption)).mono ?_; rintro e w6 ⟨rfl, hb6⟩; have h6 := below_trans (show Below (wr.alloc (.cells #[.string x.partner, .string x.ref, .int .i64 x.no, .string x.item, .int .i64 x.ordered, .int .i64 x.sent, .int .i64 x.got, .int .i64 x.cut] 92)).heap.size (wr.alloc (.cells #[.string x.partner, .string x.ref, .int .i64 x.no, .string x.item, .int .i64 x.ordered, .int .i64 x.sent, .int .i64 x.got, .int .i64 x.cut] 92)) _ from (by repeat (first | assumption | exact Below.refl _ _ | apply below_drewN | apply below_drew))) hb6))
              go_wp2
              go_roundw
              case rel => exact ⟨k + 1, _, by omega, by go_num, rfl, by rw [HE.out]; exact HG.out, by rw [HE.out, HON.out]; exact HRR.out, below_trans HB1.out (by assumption)⟩
              case measure => simp [intOf]; omega
          · have HON := Lib.hid (HSK.out (by unfold onL; rw [hof.out]; rfl))
            clear h0
            go_wp2
            have nw := fun (o : Obj) (s : Ext (wr.alloc o)) (i : Nat) => s.new i
            refine wp_region_ext (by kernel_rfl) (by kernel_rfl) ?_
            repeat (go_big_quiet_step ((first | (go_at_call 56; with_reducible exact ext_call (s_LineOpen x _ HSTR.out HX.out)) | (go_at_call 57; with_reducible exact ext_call (s_LineTransit x _ HSTR.out HX.out)))))
            refine wpQuiet_nil ?_
            rintro _ ⟨e1', rfl⟩
            have h6 := e1'.h
            clear nw
            go_wp2
            go_roundw
            case rel => exact ⟨k + 1, s, by omega, by go_num, rfl, by omega, by have := HRR.out; rw [← HON.out] at this; exact this, below_trans HB1.out (by assumption)⟩
            case measure => simp [intOf]; omega
        · have hd : b.lines.drop k = [] := List.drop_of_length_le (by omega)
          rw [hd] at hr
          have HRR := Lib.hid hr; clear hr hd
          go_wp2
          go_ret
          exact ⟨ret_str (HRR.out.trans HF.out.symm), below_trans B2.out HB.out⟩
end Go.Proofs.YtpnhbfdofgjidaaGreatDoor.T
