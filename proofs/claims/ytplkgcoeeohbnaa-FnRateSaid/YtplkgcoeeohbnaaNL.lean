/- The draws of a line. -/
import Derived.Test.YtplkgcoeeohbnaaNP
import Derived.Test.YtplkgcoeeohbnaaTOrderLine
namespace Go.Proofs.Ytplkgcoeeohbnaa.T
open Go.RowKit
def lnPartners : List ByteArray := [⟨#[65, 67, 77, 69]⟩, ⟨#[66, 79, 76, 84]⟩, ⟨#[67, 45, 49]⟩]
def lnRefs : List ByteArray := [⟨#[80, 79, 45, 49]⟩, ⟨#[80, 79, 45, 50]⟩, ⟨#[80, 79, 45, 51]⟩]
def lnItems : List ByteArray := [⟨#[66, 79, 76, 84]⟩, ⟨#[78, 85, 84]⟩, ⟨#[71, 69, 65, 82]⟩, ⟨#[67, 65, 77]⟩]
def lnOdd : List ByteArray := [⟨#[]⟩, ⟨#[97]⟩]
/-- what one in 25 of the lines is spoiled by -/
def lineC (l : OrderLine) (s : SrcS) : OrderLine × SrcS :=
  let b := oneF s 25
  if b.1 = true then
    let k := nF b.2 5
    if k.1 = 0 then (⟨l.partner, l.ref, l.no, l.item, l.ordered, l.sent, l.got, l.cut + l.ordered⟩, k.2)
    else if k.1 = 1 then (⟨l.partner, l.ref, l.no, l.item, l.ordered, l.sent, l.sent + 1, l.cut⟩, k.2)
    else if k.1 = 2 then (⟨l.partner, l.ref, 1000 * (nF k.2 2).1, l.item, l.ordered, l.sent, l.got, l.cut⟩, (nF k.2 2).2)
    else if k.1 = 3 then (⟨l.partner, l.ref, l.no, l.item, [0, 1000000, 1000001].getD (nF k.2 3).1.toNat 0, l.sent, l.got, l.cut⟩, (nF k.2 3).2)
    else (⟨l.partner, l.ref, l.no, (pickF k.2 lnOdd).1, l.ordered, l.sent, l.got, l.cut⟩, (pickF k.2 lnOdd).2)
  else (l, b.2)
def lineA (s : SrcS) : OrderLine × SrcS :=
  let p := pickF s lnPartners
  let r := pickF p.2 lnRefs
  let n := nF r.2 4
  let i := pickF n.2 lnItems
  let o := nF i.2 40
  (⟨p.1, r.1, 1 + n.1, i.1, 1 + o.1, 0, 0, 0⟩, o.2)
def lineB (s : SrcS) : OrderLine × SrcS :=
  let a := lineA s
  let x := nF a.2 (a.1.ordered + 1)
  let y := nF x.2 (x.1 + 1)
  let z := nF y.2 (a.1.ordered - x.1 + 1)
  let c := oneF z.2 3
  (if c.1 = true then ⟨a.1.partner, a.1.ref, a.1.no, a.1.item, a.1.ordered, 0, 0, z.1⟩ else ⟨a.1.partner, a.1.ref, a.1.no, a.1.item, a.1.ordered, x.1, y.1, z.1⟩, c.2)
def lineF (s : SrcS) : OrderLine × SrcS := lineC (lineB s).1 (lineB s).2
theorem lineSize : (Try.prog.info? 33).map (·.size) = some 8 := by kernel_rfl
abbrev lnO (l : OrderLine) : Obj := .cells l.cs.toArray 33 (0, 0)
abbrev lnZ : Obj := .cells #[.string ⟨#[]⟩, .string ⟨#[]⟩, .int .i64 0, .string ⟨#[]⟩, .int .i64 0, .int .i64 0, .int .i64 0, .int .i64 0] 33 (0, 0)
theorem nF_ex (s : SrcS) (most : Int) (h : most ≤ 9223372036854775807) (h1 : 1 ≤ most) : ∃ a b, nF s most = (a, b) ∧ 0 ≤ a ∧ a < most := by
  obtain ⟨h2, h3⟩ := nF_range s most h
  exact ⟨(nF s most).1, (nF s most).2, rfl, h2, by omega⟩
set_option maxHeartbeats 8000000 in
set_option maxRecDepth 100000 in
theorem line_calls {w : World} {B g : Nat} {A : Option Addr} {c : Nat} {s : SrcS} (h : Src w B g A c s) :
    Calls Try.prog 71 #[.pointer (some ⟨g, 0, none⟩)] w fun e w' => e = .returned (lineF s).1.v ∧ Src w' B g A c (lineF s).2 ∧ But w w' g := by
  have hg : g < w.heap.size := h.lt
  have hBw : B ≤ w.heap.size := h.2.2.2.1
  have HS := Lib.hid h; clear h
  obtain ⟨p1, s1, e1⟩ : ∃ a b, pickF s lnPartners = (a, b) := ⟨_, _, rfl⟩
  obtain ⟨r1, s2, e2⟩ : ∃ a b, pickF s1 lnRefs = (a, b) := ⟨_, _, rfl⟩
  obtain ⟨n1, s3, e3, n1a, n1b⟩ := nF_ex s2 4 (by omega) (by omega)
  obtain ⟨i1, s4, e4⟩ : ∃ a b, pickF s3 lnItems = (a, b) := ⟨_, _, rfl⟩
  obtain ⟨o1, s5, e5, o1a, o1b⟩ := nF_ex s4 40 (by omega) (by omega)
  obtain ⟨x1, s6, e6, x1a, x1b⟩ := nF_ex s5 (1 + o1 + 1) (by omega) (by omega)
  obtain ⟨y1, s7, e7, y1a, y1b⟩ := nF_ex s6 (x1 + 1) (by omega) (by omega)
  obtain ⟨z1, s8, e8, z1a, z1b⟩ := nF_ex s7 (1 + o1 - x1 + 1) (by omega) (by omega)
  have z1c : z1 ≤ 40 := by omega
  obtain ⟨c1, s9, e9⟩ : ∃ a b, oneF s8 3 = (a, b) := ⟨_, _, rfl⟩
  have HF := Lib.hid (show lineF s = lineC (if c1 = true then ⟨p1, r1, 1 + n1, i1, 1 + o1, 0, 0, z1⟩ else ⟨p1, r1, 1 + n1, i1, 1 + o1, x1, y1, z1⟩) s9 by
    simp only [lineF, lineB, lineA, e1, e2, e3, e4, e5, e6, e7, e8, e9])
  have E1 := Lib.hid e1; have E2 := Lib.hid e2; have E3 := Lib.hid e3; have E4 := Lib.hid e4; have E5 := Lib.hid e5
  have E6 := Lib.hid e6; have E7 := Lib.hid e7; have E8 := Lib.hid e8; have E9 := Lib.hid e9
  clear e1 e2 e3 e4 e5 e6 e7 e8 e9
  go_enter Try.func71, Try.ntmps71
  go_wp2_with fail
  have S0 := Lib.hid ((HS.out.alloc lnZ).alloc (.cells #[.string ⟨#[65, 67, 77, 69]⟩, .string ⟨#[66, 79, 76, 84]⟩, .string ⟨#[67, 45, 49]⟩] 9))
  refine (pick_calls (b := w.heap.size + 1) (T := 9) (l := lnPartners) S0.out (by simpa [lnPartners] using blk_new (w := w.alloc lnZ)) (by omega) (by decide) (by decide)).mono ?_
  rw [E1.out]
  rintro e w1 ⟨rfl, hs, hn⟩
  have S1 := Lib.hid hs
  have N1 := Lib.hid ((((But.refl w g).alloc _).alloc _).trans hn)
  have Z1 := Lib.hid (hn.blk (blk_alloc (blk_new (w := w) (o := lnZ)) _) (by omega))
  clear hs hn S0
  go_wp2_with fail
  have S0 := Lib.hid (S1.out.alloc (.cells #[.string ⟨#[80, 79, 45, 49]⟩, .string ⟨#[80, 79, 45, 50]⟩, .string ⟨#[80, 79, 45, 51]⟩] 9))
  refine (pick_calls (b := w1.heap.size) (T := 9) (l := lnRefs) S0.out (by simpa [lnRefs] using blk_new (w := w1)) (by have := S1.out.lt; omega) (by decide) (by decide)).mono ?_
  rw [E2.out]
  rintro e w2 ⟨rfl, hs, hn⟩
  have S2 := Lib.hid hs
  have N2 := Lib.hid ((N1.out.alloc _).trans hn)
  have Z2 := Lib.hid (hn.blk (blk_alloc Z1.out _) (by omega))
  clear hs hn S0 S1 N1 Z1
  go_wp2_with fail
  refine (n_calls S2.out (by omega)).mono ?_
  rw [E3.out]
  rintro e w3 ⟨rfl, hs, hn⟩
  have S3 := Lib.hid hs
  have N3 := Lib.hid (N2.out.trans hn)
  have Z3 := Lib.hid (hn.blk Z2.out (by omega))
  clear hs hn S2 N2 Z2
  go_wp2_with fail
  have S0 := Lib.hid (S3.out.alloc (.cells #[.string ⟨#[66, 79, 76, 84]⟩, .string ⟨#[78, 85, 84]⟩, .string ⟨#[71, 69, 65, 82]⟩, .string ⟨#[67, 65, 77]⟩] 9))
  refine (pick_calls (b := w3.heap.size) (T := 9) (l := lnItems) S0.out (by simpa [lnItems] using blk_new (w := w3)) (by have := S3.out.lt; omega) (by decide) (by decide)).mono ?_
  rw [E4.out]
  rintro e w4 ⟨rfl, hs, hn⟩
  have S4 := Lib.hid hs
  have N4 := Lib.hid ((N3.out.alloc _).trans hn)
  have Z4 := Lib.hid (hn.blk (blk_alloc Z3.out _) (by omega))
  clear hs hn S0 S3 N3 Z3
  go_wp2_with fail
  refine (n_calls S4.out (by omega)).mono ?_
  rw [E5.out]
  rintro e w5 ⟨rfl, hs, hn⟩
  have S5 := Lib.hid hs
  have N5 := Lib.hid (N4.out.trans hn)
  have Z5 := Lib.hid (hn.blk Z4.out (by omega))
  clear hs hn S4 N4 Z4
  go_wp2_with fail
  have hb5 : w.heap.size < w5.heap.size := blk_lt Z5.out
  have S0 := Lib.hid (S5.out.alloc (lnO ⟨p1, r1, 1 + n1, i1, 1 + o1, 0, 0, 0⟩))
  have L0 := Lib.hid (blk_new (w := w5) (o := lnO ⟨p1, r1, 1 + n1, i1, 1 + o1, 0, 0, 0⟩))
  have N0 := Lib.hid (N5.out.alloc (lnO ⟨p1, r1, 1 + n1, i1, 1 + o1, 0, 0, 0⟩))
  have Z0 := Lib.hid (blk_alloc Z5.out (lnO ⟨p1, r1, 1 + n1, i1, 1 + o1, 0, 0, 0⟩))
  clear S5 N5 Z5
  refine (n_calls S0.out (by omega)).mono ?_
  rw [E6.out]
  rintro e w6 ⟨rfl, hs, hn⟩
  generalize w5.heap.size = b at *
  have hbg : b ≠ g := by omega
  have hBb : B ≤ b := by omega
  have S6 := Lib.hid hs
  have N6 := Lib.hid (N0.out.trans hn)
  have Z6 := Lib.hid (hn.blk Z0.out (by omega))
  have L6 := Lib.hid (hn.blk L0.out hbg)
  clear hs hn S0 N0 Z0 L0
  have c4 : w6.cell? ⟨b, 4, none⟩ = some (.int .i64 (1 + o1)) := (blk_cell L6.out 4).trans rfl
  have c5 : w6.cell? ⟨b, 5, none⟩ = some (.int .i64 0) := (blk_cell L6.out 5).trans rfl
  have f5 : w6.frozen? ⟨b, 5, none⟩ = false := blk_frozen L6.out 5
  go_wp2_with fail
  clear c4 c5 f5
  refine (n_calls (S6.out.far (p := ⟨b, 5, none⟩) hBb _) (by omega)).mono ?_
  rw [E7.out]
  rintro e w7 ⟨rfl, hs, hn⟩
  have S7 := Lib.hid hs
  have N7 := Lib.hid ((N6.out.far (p := ⟨b, 5, none⟩) (by show w.heap.size ≤ b; omega) _).trans hn)
  have Z7 := Lib.hid (hn.blk (blk_far Z6.out (p := ⟨b, 5, none⟩) (by show w.heap.size ≠ b; omega) _) (by omega))
  have L7 : Hid (w7.heap[b]? = some (lnO ⟨p1, r1, 1 + n1, i1, 1 + o1, x1, 0, 0⟩)) := Lib.hid (hn.blk (blk_set L6.out 5 _) hbg)
  clear hs hn S6 N6 Z6 L6
  have c4 : w7.cell? ⟨b, 4, none⟩ = some (.int .i64 (1 + o1)) := (blk_cell L7.out 4).trans rfl
  have c5 : w7.cell? ⟨b, 5, none⟩ = some (.int .i64 x1) := (blk_cell L7.out 5).trans rfl
  have c6 : w7.cell? ⟨b, 6, none⟩ = some (.int .i64 0) := (blk_cell L7.out 6).trans rfl
  have f6 : w7.frozen? ⟨b, 6, none⟩ = false := blk_frozen L7.out 6
  go_wp2_with fail
  clear c4 c5 c6 f6
  refine (n_calls (S7.out.far (p := ⟨b, 6, none⟩) hBb _) (by omega)).mono ?_
  rw [E8.out]
  rintro e w8 ⟨rfl, hs, hn⟩
  have S8 := Lib.hid hs
  have N8 := Lib.hid ((N7.out.far (p := ⟨b, 6, none⟩) (by show w.heap.size ≤ b; omega) _).trans hn)
  have Z8 := Lib.hid (hn.blk (blk_far Z7.out (p := ⟨b, 6, none⟩) (by show w.heap.size ≠ b; omega) _) (by omega))
  have L8 : Hid (w8.heap[b]? = some (lnO ⟨p1, r1, 1 + n1, i1, 1 + o1, x1, y1, 0⟩)) := Lib.hid (hn.blk (blk_set L7.out 6 _) hbg)
  clear hs hn S7 N7 Z7 L7
  have c7 : w8.cell? ⟨b, 7, none⟩ = some (.int .i64 0) := (blk_cell L8.out 7).trans rfl
  have f7 : w8.frozen? ⟨b, 7, none⟩ = false := blk_frozen L8.out 7
  go_wp2_with fail
  clear c7 f7
  refine (one_calls (S8.out.far (p := ⟨b, 7, none⟩) hBb _) (by omega)).mono ?_
  rw [E9.out]
  rintro e w9 ⟨rfl, hs, hn⟩
  have S9 := Lib.hid hs
  have N9 := Lib.hid ((N8.out.far (p := ⟨b, 7, none⟩) (by show w.heap.size ≤ b; omega) _).trans hn)
  have Z9 := Lib.hid (hn.blk (blk_far Z8.out (p := ⟨b, 7, none⟩) (by show w.heap.size ≠ b; omega) _) (by omega))
  have L9 : Hid (w9.heap[b]? = some (lnO ⟨p1, r1, 1 + n1, i1, 1 + o1, x1, y1, z1⟩)) := Lib.hid (hn.blk (blk_set L8.out 7 _) hbg)
  clear hs hn S8 N8 Z8 L8
  have c5 : w9.cell? ⟨b, 5, none⟩ = some (.int .i64 x1) := (blk_cell L9.out 5).trans rfl
  have c6 : w9.cell? ⟨b, 6, none⟩ = some (.int .i64 y1) := (blk_cell L9.out 6).trans rfl
  have f5 : w9.frozen? ⟨b, 5, none⟩ = false := blk_frozen L9.out 5
  have f6 : w9.frozen? ⟨b, 6, none⟩ = false := blk_frozen L9.out 6
  obtain ⟨b1, s10, e10⟩ : ∃ a b, oneF s9 25 = (a, b) := ⟨_, _, rfl⟩
  obtain ⟨k1, s11, e11, k1a, k1b⟩ := nF_ex s10 5 (by omega) (by omega)
  obtain ⟨u1, s12, e12, u1a, u1b⟩ := nF_ex s11 2 (by omega) (by omega)
  obtain ⟨v1, s13, e13, v1a, v1b⟩ := nF_ex s11 3 (by omega) (by omega)
  obtain ⟨t1, s14, e14⟩ : ∃ a b, pickF s11 lnOdd = (a, b) := ⟨_, _, rfl⟩
  have HC := Lib.hid (show ∀ l, lineC l s9 = if b1 = true then (if k1 = 0 then (⟨l.partner, l.ref, l.no, l.item, l.ordered, l.sent, l.got, l.cut + l.ordered⟩, s11)
    else if k1 = 1 then (⟨l.partner, l.ref, l.no, l.item, l.ordered, l.sent, l.sent + 1, l.cut⟩, s11)
    else if k1 = 2 then (⟨l.partner, l.ref, 1000 * u1, l.item, l.ordered, l.sent, l.got, l.cut⟩, s12)
    else if k1 = 3 then (⟨l.partner, l.ref, l.no, l.item, [0, 1000000, 1000001].getD v1.toNat 0, l.sent, l.got, l.cut⟩, s13)
    else (⟨l.partner, l.ref, l.no, t1, l.ordered, l.sent, l.got, l.cut⟩, s14)) else (l, s10) by
      intro l; simp only [lineC, e10, e11, e12, e13, e14])
  have E10 := Lib.hid e10; have E11 := Lib.hid e11; have E12 := Lib.hid e12; have E13 := Lib.hid e13; have E14 := Lib.hid e14
  clear e10 e11 e12 e13 e14
  cases c1
  all_goals
    go_wp2_with fail
    clear c5 c6 f5 f6
  · obtain ⟨sx, sy, hsx, hsy, HF', L⟩ : ∃ sx sy : Int, (0 ≤ sx ∧ sx ≤ 40) ∧ (0 ≤ sy ∧ sy ≤ 40) ∧ Hid (lineF s = lineC ⟨p1, r1, 1 + n1, i1, 1 + o1, sx, sy, z1⟩ s9) ∧ Hid (w9.heap[b]? = some (lnO ⟨p1, r1, 1 + n1, i1, 1 + o1, sx, sy, z1⟩)) :=
      ⟨x1, y1, by omega, by omega, Lib.hid (by rw [HF.out]; rfl), L9⟩
    have Sa := S9; have Na := N9; have Za := Z9
    clear L9 HF S9 N9 Z9
    generalize w9 = wa at *
    clear E1 E2 E3 E4 E5 E6 E7 E8 E9 x1a x1b y1a y1b HS
    refine (one_calls Sa.out (by omega)).mono ?_
    rw [E10.out]
    rintro e wb ⟨rfl, hs, hn⟩
    have Sb := Lib.hid hs
    have Nb := Lib.hid (Na.out.trans hn)
    have Zb := Lib.hid (hn.blk Za.out (by omega))
    have Lb := Lib.hid (hn.blk L.out hbg)
    clear hs hn Sa Na Za L
    cases b1
    · have HR : Hid (lineF s = (⟨p1, r1, 1 + n1, i1, 1 + o1, sx, sy, z1⟩, s10)) := Lib.hid (by rw [HF'.out, HC.out]; rfl)
      clear HF' HC
      have c0 : wb.cell? ⟨b, 0, none⟩ = some (.string p1) := (blk_cell Lb.out 0).trans rfl
      have c1 : wb.cell? ⟨b, 1, none⟩ = some (.string r1) := (blk_cell Lb.out 1).trans rfl
      have c2 : wb.cell? ⟨b, 2, none⟩ = some (.int .i64 (1 + n1)) := (blk_cell Lb.out 2).trans rfl
      have c3 : wb.cell? ⟨b, 3, none⟩ = some (.string i1) := (blk_cell Lb.out 3).trans rfl
      have c4 : wb.cell? ⟨b, 4, none⟩ = some (.int .i64 (1 + o1)) := (blk_cell Lb.out 4).trans rfl
      have c5 : wb.cell? ⟨b, 5, none⟩ = some (.int .i64 sx) := (blk_cell Lb.out 5).trans rfl
      have c6 : wb.cell? ⟨b, 6, none⟩ = some (.int .i64 sy) := (blk_cell Lb.out 6).trans rfl
      have c7 : wb.cell? ⟨b, 7, none⟩ = some (.int .i64 z1) := (blk_cell Lb.out 7).trans rfl
      have d0 : wb.cell? ⟨w.heap.size, 0, none⟩ = some (.string ⟨#[]⟩) := (blk_cell Zb.out 0).trans rfl
      have f0 : wb.frozen? ⟨w.heap.size, 0, none⟩ = false := blk_frozen Zb.out 0
      have d1 : wb.cell? ⟨w.heap.size, 1, none⟩ = some (.string ⟨#[]⟩) := (blk_cell Zb.out 1).trans rfl
      have f1 : wb.frozen? ⟨w.heap.size, 1, none⟩ = false := blk_frozen Zb.out 1
      have d2 : wb.cell? ⟨w.heap.size, 2, none⟩ = some (.int .i64 0) := (blk_cell Zb.out 2).trans rfl
      have f2 : wb.frozen? ⟨w.heap.size, 2, none⟩ = false := blk_frozen Zb.out 2
      have d3 : wb.cell? ⟨w.heap.size, 3, none⟩ = some (.string ⟨#[]⟩) := (blk_cell Zb.out 3).trans rfl
      have f3 : wb.frozen? ⟨w.heap.size, 3, none⟩ = false := blk_frozen Zb.out 3
      have d4 : wb.cell? ⟨w.heap.size, 4, none⟩ = some (.int .i64 0) := (blk_cell Zb.out 4).trans rfl
      have f4 : wb.frozen? ⟨w.heap.size, 4, none⟩ = false := blk_frozen Zb.out 4
      have d5 : wb.cell? ⟨w.heap.size, 5, none⟩ = some (.int .i64 0) := (blk_cell Zb.out 5).trans rfl
      have f5 : wb.frozen? ⟨w.heap.size, 5, none⟩ = false := blk_frozen Zb.out 5
      have d6 : wb.cell? ⟨w.heap.size, 6, none⟩ = some (.int .i64 0) := (blk_cell Zb.out 6).trans rfl
      have f6 : wb.frozen? ⟨w.heap.size, 6, none⟩ = false := blk_frozen Zb.out 6
      have d7 : wb.cell? ⟨w.heap.size, 7, none⟩ = some (.int .i64 0) := (blk_cell Zb.out 7).trans rfl
      have f7 : wb.frozen? ⟨w.heap.size, 7, none⟩ = false := blk_frozen Zb.out 7
      go_wp2_with fail
      refine bodyPost_ret (v := .agg #[.string p1, .string r1, .int .i64 (1 + n1), .string i1, .int .i64 (1 + o1), .int .i64 sx, .int .i64 sy, .int .i64 z1]) ((results_c1 Try.results71 _ _ w.heap.size _ _ _ _ rfl (blk_set (blk_set (blk_set (blk_set (blk_set (blk_set (blk_set (blk_set Zb.out 0 _) 1 _) 2 _) 3 _) 4 _) 5 _) 6 _) 7 _) Try.underlying33 rfl (by simpa using lineSize)).trans (by simp)) rfl ⟨?_, ?_, ?_⟩
      · rw [HR.out]
      · rw [HR.out]; exact ((((((((Sb.out.far (p := ⟨w.heap.size, 0, none⟩) hBw _).far (p := ⟨w.heap.size, 1, none⟩) hBw _).far (p := ⟨w.heap.size, 2, none⟩) hBw _).far (p := ⟨w.heap.size, 3, none⟩) hBw _).far (p := ⟨w.heap.size, 4, none⟩) hBw _).far (p := ⟨w.heap.size, 5, none⟩) hBw _).far (p := ⟨w.heap.size, 6, none⟩) hBw _).far (p := ⟨w.heap.size, 7, none⟩) hBw _)
      · exact ((((((((Nb.out.far (p := ⟨w.heap.size, 0, none⟩) (Nat.le_refl _) _).far (p := ⟨w.heap.size, 1, none⟩) (Nat.le_refl _) _).far (p := ⟨w.heap.size, 2, none⟩) (Nat.le_refl _) _).far (p := ⟨w.heap.size, 3, none⟩) (Nat.le_refl _) _).far (p := ⟨w.heap.size, 4, none⟩) (Nat.le_refl _) _).far (p := ⟨w.heap.size, 5, none⟩) (Nat.le_refl _) _).far (p := ⟨w.heap.size, 6, none⟩) (Nat.le_refl _) _).far (p := ⟨w.heap.size, 7, none⟩) (Nat.le_refl _) _)
    · have HQ := Lib.hid (HF'.out.trans ((HC.out _).trans (if_pos rfl)))
      clear HF' HC
      go_wp2_with fail
      refine (n_calls Sb.out (by omega)).mono ?_
      rw [E11.out]
      rintro e wc ⟨rfl, hs, hn⟩
      have Sc := Lib.hid hs
      have Nc := Lib.hid (Nb.out.trans hn)
      have Zc := Lib.hid (hn.blk Zb.out (by omega))
      have Lc := Lib.hid (hn.blk Lb.out hbg)
      clear hs hn Sb Nb Zb Lb
      by_cases q0 : k1 = 0
      · have HR : Hid (lineF s = (⟨p1, r1, 1 + n1, i1, 1 + o1, sx, sy, z1 + (1 + o1)⟩, s11)) := Lib.hid (by rw [HQ.out]; rw [if_pos q0])
        clear HQ
        subst q0
        have c0 : wc.cell? ⟨b, 0, none⟩ = some (.string p1) := (blk_cell Lc.out 0).trans rfl
        have c1 : wc.cell? ⟨b, 1, none⟩ = some (.string r1) := (blk_cell Lc.out 1).trans rfl
        have c2 : wc.cell? ⟨b, 2, none⟩ = some (.int .i64 (1 + n1)) := (blk_cell Lc.out 2).trans rfl
        have c3 : wc.cell? ⟨b, 3, none⟩ = some (.string i1) := (blk_cell Lc.out 3).trans rfl
        have c4 : wc.cell? ⟨b, 4, none⟩ = some (.int .i64 (1 + o1)) := (blk_cell Lc.out 4).trans rfl
        have c5 : wc.cell? ⟨b, 5, none⟩ = some (.int .i64 sx) := (blk_cell Lc.out 5).trans rfl
        have c6 : wc.cell? ⟨b, 6, none⟩ = some (.int .i64 sy) := (blk_cell Lc.out 6).trans rfl
        have c7 : wc.cell? ⟨b, 7, none⟩ = some (.int .i64 z1) := (blk_cell Lc.out 7).trans rfl
        have g7 : wc.frozen? ⟨b, 7, none⟩ = false := blk_frozen Lc.out 7
        have d0 : wc.cell? ⟨w.heap.size, 0, none⟩ = some (.string ⟨#[]⟩) := (blk_cell Zc.out 0).trans rfl
        have f0 : wc.frozen? ⟨w.heap.size, 0, none⟩ = false := blk_frozen Zc.out 0
        have d1 : wc.cell? ⟨w.heap.size, 1, none⟩ = some (.string ⟨#[]⟩) := (blk_cell Zc.out 1).trans rfl
        have f1 : wc.frozen? ⟨w.heap.size, 1, none⟩ = false := blk_frozen Zc.out 1
        have d2 : wc.cell? ⟨w.heap.size, 2, none⟩ = some (.int .i64 0) := (blk_cell Zc.out 2).trans rfl
        have f2 : wc.frozen? ⟨w.heap.size, 2, none⟩ = false := blk_frozen Zc.out 2
        have d3 : wc.cell? ⟨w.heap.size, 3, none⟩ = some (.string ⟨#[]⟩) := (blk_cell Zc.out 3).trans rfl
        have f3 : wc.frozen? ⟨w.heap.size, 3, none⟩ = false := blk_frozen Zc.out 3
        have d4 : wc.cell? ⟨w.heap.size, 4, none⟩ = some (.int .i64 0) := (blk_cell Zc.out 4).trans rfl
        have f4 : wc.frozen? ⟨w.heap.size, 4, none⟩ = false := blk_frozen Zc.out 4
        have d5 : wc.cell? ⟨w.heap.size, 5, none⟩ = some (.int .i64 0) := (blk_cell Zc.out 5).trans rfl
        have f5 : wc.frozen? ⟨w.heap.size, 5, none⟩ = false := blk_frozen Zc.out 5
        have d6 : wc.cell? ⟨w.heap.size, 6, none⟩ = some (.int .i64 0) := (blk_cell Zc.out 6).trans rfl
        have f6 : wc.frozen? ⟨w.heap.size, 6, none⟩ = false := blk_frozen Zc.out 6
        have d7 : wc.cell? ⟨w.heap.size, 7, none⟩ = some (.int .i64 0) := (blk_cell Zc.out 7).trans rfl
        have f7 : wc.frozen? ⟨w.heap.size, 7, none⟩ = false := blk_frozen Zc.out 7
        go_wp2_with fail
        refine bodyPost_ret (v := .agg #[.string p1, .string r1, .int .i64 (1 + n1), .string i1, .int .i64 (1 + o1), .int .i64 sx, .int .i64 sy, .int .i64 (z1 + (1 + o1))]) ((results_c1 Try.results71 _ _ w.heap.size _ _ _ _ rfl (blk_set (blk_set (blk_set (blk_set (blk_set (blk_set (blk_set (blk_set (blk_far Zc.out (p := ⟨b, 7, none⟩) (by show w.heap.size ≠ b; omega) _) 0 _) 1 _) 2 _) 3 _) 4 _) 5 _) 6 _) 7 _) Try.underlying33 rfl (by simpa using lineSize)).trans (by simp)) rfl ⟨?_, ?_, ?_⟩
        · rw [HR.out]
        · rw [HR.out]; exact (((((((((Sc.out.far (p := ⟨b, 7, none⟩) hBb _).far (p := ⟨w.heap.size, 0, none⟩) hBw _).far (p := ⟨w.heap.size, 1, none⟩) hBw _).far (p := ⟨w.heap.size, 2, none⟩) hBw _).far (p := ⟨w.heap.size, 3, none⟩) hBw _).far (p := ⟨w.heap.size, 4, none⟩) hBw _).far (p := ⟨w.heap.size, 5, none⟩) hBw _).far (p := ⟨w.heap.size, 6, none⟩) hBw _).far (p := ⟨w.heap.size, 7, none⟩) hBw _)
        · exact (((((((((Nc.out.far (p := ⟨b, 7, none⟩) (by show w.heap.size ≤ b; omega) _).far (p := ⟨w.heap.size, 0, none⟩) (Nat.le_refl _) _).far (p := ⟨w.heap.size, 1, none⟩) (Nat.le_refl _) _).far (p := ⟨w.heap.size, 2, none⟩) (Nat.le_refl _) _).far (p := ⟨w.heap.size, 3, none⟩) (Nat.le_refl _) _).far (p := ⟨w.heap.size, 4, none⟩) (Nat.le_refl _) _).far (p := ⟨w.heap.size, 5, none⟩) (Nat.le_refl _) _).far (p := ⟨w.heap.size, 6, none⟩) (Nat.le_refl _) _).far (p := ⟨w.heap.size, 7, none⟩) (Nat.le_refl _) _)
      have p0 : (k1 == 0) = false := by simpa using q0
      by_cases q1 : k1 = 1
      · have HR : Hid (lineF s = (⟨p1, r1, 1 + n1, i1, 1 + o1, sx, sx + 1, z1⟩, s11)) := Lib.hid (by rw [HQ.out]; rw [if_neg q0, if_pos q1])
        clear HQ
        subst q1
        have c0 : wc.cell? ⟨b, 0, none⟩ = some (.string p1) := (blk_cell Lc.out 0).trans rfl
        have c1 : wc.cell? ⟨b, 1, none⟩ = some (.string r1) := (blk_cell Lc.out 1).trans rfl
        have c2 : wc.cell? ⟨b, 2, none⟩ = some (.int .i64 (1 + n1)) := (blk_cell Lc.out 2).trans rfl
        have c3 : wc.cell? ⟨b, 3, none⟩ = some (.string i1) := (blk_cell Lc.out 3).trans rfl
        have c4 : wc.cell? ⟨b, 4, none⟩ = some (.int .i64 (1 + o1)) := (blk_cell Lc.out 4).trans rfl
        have c5 : wc.cell? ⟨b, 5, none⟩ = some (.int .i64 sx) := (blk_cell Lc.out 5).trans rfl
        have c6 : wc.cell? ⟨b, 6, none⟩ = some (.int .i64 sy) := (blk_cell Lc.out 6).trans rfl
        have c7 : wc.cell? ⟨b, 7, none⟩ = some (.int .i64 z1) := (blk_cell Lc.out 7).trans rfl
        have g6 : wc.frozen? ⟨b, 6, none⟩ = false := blk_frozen Lc.out 6
        have d0 : wc.cell? ⟨w.heap.size, 0, none⟩ = some (.string ⟨#[]⟩) := (blk_cell Zc.out 0).trans rfl
        have f0 : wc.frozen? ⟨w.heap.size, 0, none⟩ = false := blk_frozen Zc.out 0
        have d1 : wc.cell? ⟨w.heap.size, 1, none⟩ = some (.string ⟨#[]⟩) := (blk_cell Zc.out 1).trans rfl
        have f1 : wc.frozen? ⟨w.heap.size, 1, none⟩ = false := blk_frozen Zc.out 1
        have d2 : wc.cell? ⟨w.heap.size, 2, none⟩ = some (.int .i64 0) := (blk_cell Zc.out 2).trans rfl
        have f2 : wc.frozen? ⟨w.heap.size, 2, none⟩ = false := blk_frozen Zc.out 2
        have d3 : wc.cell? ⟨w.heap.size, 3, none⟩ = some (.string ⟨#[]⟩) := (blk_cell Zc.out 3).trans rfl
        have f3 : wc.frozen? ⟨w.heap.size, 3, none⟩ = false := blk_frozen Zc.out 3
        have d4 : wc.cell? ⟨w.heap.size, 4, none⟩ = some (.int .i64 0) := (blk_cell Zc.out 4).trans rfl
        have f4 : wc.frozen? ⟨w.heap.size, 4, none⟩ = false := blk_frozen Zc.out 4
        have d5 : wc.cell? ⟨w.heap.size, 5, none⟩ = some (.int .i64 0) := (blk_cell Zc.out 5).trans rfl
        have f5 : wc.frozen? ⟨w.heap.size, 5, none⟩ = false := blk_frozen Zc.out 5
        have d6 : wc.cell? ⟨w.heap.size, 6, none⟩ = some (.int .i64 0) := (blk_cell Zc.out 6).trans rfl
        have f6 : wc.frozen? ⟨w.heap.size, 6, none⟩ = false := blk_frozen Zc.out 6
        have d7 : wc.cell? ⟨w.heap.size, 7, none⟩ = some (.int .i64 0) := (blk_cell Zc.out 7).trans rfl
        have f7 : wc.frozen? ⟨w.heap.size, 7, none⟩ = false := blk_frozen Zc.out 7
        go_wp2_with fail
        refine bodyPost_ret (v := .agg #[.string p1, .string r1, .int .i64 (1 + n1), .string i1, .int .i64 (1 + o1), .int .i64 sx, .int .i64 (sx + 1), .int .i64 z1]) ((results_c1 Try.results71 _ _ w.heap.size _ _ _ _ rfl (blk_set (blk_set (blk_set (blk_set (blk_set (blk_set (blk_set (blk_set (blk_far Zc.out (p := ⟨b, 6, none⟩) (by show w.heap.size ≠ b; omega) _) 0 _) 1 _) 2 _) 3 _) 4 _) 5 _) 6 _) 7 _) Try.underlying33 rfl (by simpa using lineSize)).trans (by simp)) rfl ⟨?_, ?_, ?_⟩
        · rw [HR.out]
        · rw [HR.out]; exact (((((((((Sc.out.far (p := ⟨b, 6, none⟩) hBb _).far (p := ⟨w.heap.size, 0, none⟩) hBw _).far (p := ⟨w.heap.size, 1, none⟩) hBw _).far (p := ⟨w.heap.size, 2, none⟩) hBw _).far (p := ⟨w.heap.size, 3, none⟩) hBw _).far (p := ⟨w.heap.size, 4, none⟩) hBw _).far (p := ⟨w.heap.size, 5, none⟩) hBw _).far (p := ⟨w.heap.size, 6, none⟩) hBw _).far (p := ⟨w.heap.size, 7, none⟩) hBw _)
        · exact (((((((((Nc.out.far (p := ⟨b, 6, none⟩) (by show w.heap.size ≤ b; omega) _).far (p := ⟨w.heap.size, 0, none⟩) (Nat.le_refl _) _).far (p := ⟨w.heap.size, 1, none⟩) (Nat.le_refl _) _).far (p := ⟨w.heap.size, 2, none⟩) (Nat.le_refl _) _).far (p := ⟨w.heap.size, 3, none⟩) (Nat.le_refl _) _).far (p := ⟨w.heap.size, 4, none⟩) (Nat.le_refl _) _).far (p := ⟨w.heap.size, 5, none⟩) (Nat.le_refl _) _).far (p := ⟨w.heap.size, 6, none⟩) (Nat.le_refl _) _).far (p := ⟨w.heap.size, 7, none⟩) (Nat.le_refl _) _)
      have p1' : (k1 == 1) = false := by simpa using q1
      by_cases q2 : k1 = 2
      · have HR : Hid (lineF s = (⟨p1, r1, 1000 * u1, i1, 1 + o1, sx, sy, z1⟩, s12)) := Lib.hid (by rw [HQ.out]; rw [if_neg q0, if_neg q1, if_pos q2])
        clear HQ
        subst q2
        go_wp2_with fail
        refine (n_calls Sc.out (by omega)).mono ?_
        rw [E12.out]
        rintro e wd ⟨rfl, hs, hn⟩
        have Sd := Lib.hid hs
        have Nd := Lib.hid (Nc.out.trans hn)
        have Zd := Lib.hid (hn.blk Zc.out (by omega))
        have Ld := Lib.hid (hn.blk Lc.out hbg)
        clear hs hn Sc Nc Zc Lc
        have c0 : wd.cell? ⟨b, 0, none⟩ = some (.string p1) := (blk_cell Ld.out 0).trans rfl
        have c1 : wd.cell? ⟨b, 1, none⟩ = some (.string r1) := (blk_cell Ld.out 1).trans rfl
        have c2 : wd.cell? ⟨b, 2, none⟩ = some (.int .i64 (1 + n1)) := (blk_cell Ld.out 2).trans rfl
        have c3 : wd.cell? ⟨b, 3, none⟩ = some (.string i1) := (blk_cell Ld.out 3).trans rfl
        have c4 : wd.cell? ⟨b, 4, none⟩ = some (.int .i64 (1 + o1)) := (blk_cell Ld.out 4).trans rfl
        have c5 : wd.cell? ⟨b, 5, none⟩ = some (.int .i64 sx) := (blk_cell Ld.out 5).trans rfl
        have c6 : wd.cell? ⟨b, 6, none⟩ = some (.int .i64 sy) := (blk_cell Ld.out 6).trans rfl
        have c7 : wd.cell? ⟨b, 7, none⟩ = some (.int .i64 z1) := (blk_cell Ld.out 7).trans rfl
        have g2 : wd.frozen? ⟨b, 2, none⟩ = false := blk_frozen Ld.out 2
        have d0 : wd.cell? ⟨w.heap.size, 0, none⟩ = some (.string ⟨#[]⟩) := (blk_cell Zd.out 0).trans rfl
        have f0 : wd.frozen? ⟨w.heap.size, 0, none⟩ = false := blk_frozen Zd.out 0
        have d1 : wd.cell? ⟨w.heap.size, 1, none⟩ = some (.string ⟨#[]⟩) := (blk_cell Zd.out 1).trans rfl
        have f1 : wd.frozen? ⟨w.heap.size, 1, none⟩ = false := blk_frozen Zd.out 1
        have d2 : wd.cell? ⟨w.heap.size, 2, none⟩ = some (.int .i64 0) := (blk_cell Zd.out 2).trans rfl
        have f2 : wd.frozen? ⟨w.heap.size, 2, none⟩ = false := blk_frozen Zd.out 2
        have d3 : wd.cell? ⟨w.heap.size, 3, none⟩ = some (.string ⟨#[]⟩) := (blk_cell Zd.out 3).trans rfl
        have f3 : wd.frozen? ⟨w.heap.size, 3, none⟩ = false := blk_frozen Zd.out 3
        have d4 : wd.cell? ⟨w.heap.size, 4, none⟩ = some (.int .i64 0) := (blk_cell Zd.out 4).trans rfl
        have f4 : wd.frozen? ⟨w.heap.size, 4, none⟩ = false := blk_frozen Zd.out 4
        have d5 : wd.cell? ⟨w.heap.size, 5, none⟩ = some (.int .i64 0) := (blk_cell Zd.out 5).trans rfl
        have f5 : wd.frozen? ⟨w.heap.size, 5, none⟩ = false := blk_frozen Zd.out 5
        have d6 : wd.cell? ⟨w.heap.size, 6, none⟩ = some (.int .i64 0) := (blk_cell Zd.out 6).trans rfl
        have f6 : wd.frozen? ⟨w.heap.size, 6, none⟩ = false := blk_frozen Zd.out 6
        have d7 : wd.cell? ⟨w.heap.size, 7, none⟩ = some (.int .i64 0) := (blk_cell Zd.out 7).trans rfl
        have f7 : wd.frozen? ⟨w.heap.size, 7, none⟩ = false := blk_frozen Zd.out 7
        go_wp2_with fail
        refine bodyPost_ret (v := .agg #[.string p1, .string r1, .int .i64 (1000 * u1), .string i1, .int .i64 (1 + o1), .int .i64 sx, .int .i64 sy, .int .i64 z1]) ((results_c1 Try.results71 _ _ w.heap.size _ _ _ _ rfl (blk_set (blk_set (blk_set (blk_set (blk_set (blk_set (blk_set (blk_set (blk_far Zd.out (p := ⟨b, 2, none⟩) (by show w.heap.size ≠ b; omega) _) 0 _) 1 _) 2 _) 3 _) 4 _) 5 _) 6 _) 7 _) Try.underlying33 rfl (by simpa using lineSize)).trans (by simp)) rfl ⟨?_, ?_, ?_⟩
        · rw [HR.out]
        · rw [HR.out]; exact (((((((((Sd.out.far (p := ⟨b, 2, none⟩) hBb _).far (p := ⟨w.heap.size, 0, none⟩) hBw _).far (p := ⟨w.heap.size, 1, none⟩) hBw _).far (p := ⟨w.heap.size, 2, none⟩) hBw _).far (p := ⟨w.heap.size, 3, none⟩) hBw _).far (p := ⟨w.heap.size, 4, none⟩) hBw _).far (p := ⟨w.heap.size, 5, none⟩) hBw _).far (p := ⟨w.heap.size, 6, none⟩) hBw _).far (p := ⟨w.heap.size, 7, none⟩) hBw _)
        · exact (((((((((Nd.out.far (p := ⟨b, 2, none⟩) (by show w.heap.size ≤ b; omega) _).far (p := ⟨w.heap.size, 0, none⟩) (Nat.le_refl _) _).far (p := ⟨w.heap.size, 1, none⟩) (Nat.le_refl _) _).far (p := ⟨w.heap.size, 2, none⟩) (Nat.le_refl _) _).far (p := ⟨w.heap.size, 3, none⟩) (Nat.le_refl _) _).far (p := ⟨w.heap.size, 4, none⟩) (Nat.le_refl _) _).far (p := ⟨w.heap.size, 5, none⟩) (Nat.le_refl _) _).far (p := ⟨w.heap.size, 6, none⟩) (Nat.le_refl _) _).far (p := ⟨w.heap.size, 7, none⟩) (Nat.le_refl _) _)
      have p2 : (k1 == 2) = false := by simpa using q2
      have hcg : wc.heap.size ≠ g := by have := Sc.out.lt; omega
      by_cases q3 : k1 = 3
      · obtain ⟨kk, rfl⟩ : ∃ kk : Nat, v1 = kk := ⟨v1.toNat, by omega⟩
        obtain ⟨V, hV⟩ : ∃ V, ([0, 1000000, 1000001] : List Int).getD kk 0 = V := ⟨_, rfl⟩
        have HR : Hid (lineF s = (⟨p1, r1, 1 + n1, i1, V, sx, sy, z1⟩, s13)) := Lib.hid (by rw [HQ.out]; rw [if_neg q0, if_neg q1, if_neg q2, if_pos q3]; simp only [Int.toNat_natCast, hV])
        clear HQ
        subst q3
        go_wp2_with fail
        refine (n_calls (Sc.out.alloc _) (by omega)).mono ?_
        rw [E13.out]
        rintro e wd ⟨rfl, hs, hn⟩
        have Sd := Lib.hid hs
        have Nd := Lib.hid ((Nc.out.alloc _).trans hn)
        have Zd := Lib.hid (hn.blk (blk_alloc Zc.out _) (by omega))
        have Ld := Lib.hid (hn.blk (blk_alloc Lc.out _) hbg)
        have hv : wd.cell? ⟨wc.heap.size, kk, none⟩ = some (.int .i64 V) := by
              have := blk_cell (hn.blk (blk_new (w := wc)) hcg) kk
              rw [this, ← hV]
              have h3 : kk = 0 ∨ kk = 1 ∨ kk = 2 := by omega
              rcases h3 with rfl | rfl | rfl <;> rfl
        have hk3 : kk < 3 := by omega
        clear hs hn Sc Nc Zc Lc hV
        have c0 : wd.cell? ⟨b, 0, none⟩ = some (.string p1) := (blk_cell Ld.out 0).trans rfl
        have c1 : wd.cell? ⟨b, 1, none⟩ = some (.string r1) := (blk_cell Ld.out 1).trans rfl
        have c2 : wd.cell? ⟨b, 2, none⟩ = some (.int .i64 (1 + n1)) := (blk_cell Ld.out 2).trans rfl
        have c3 : wd.cell? ⟨b, 3, none⟩ = some (.string i1) := (blk_cell Ld.out 3).trans rfl
        have c4 : wd.cell? ⟨b, 4, none⟩ = some (.int .i64 (1 + o1)) := (blk_cell Ld.out 4).trans rfl
        have c5 : wd.cell? ⟨b, 5, none⟩ = some (.int .i64 sx) := (blk_cell Ld.out 5).trans rfl
        have c6 : wd.cell? ⟨b, 6, none⟩ = some (.int .i64 sy) := (blk_cell Ld.out 6).trans rfl
        have c7 : wd.cell? ⟨b, 7, none⟩ = some (.int .i64 z1) := (blk_cell Ld.out 7).trans rfl
        have g4 : wd.frozen? ⟨b, 4, none⟩ = false := blk_frozen Ld.out 4
        have d0 : wd.cell? ⟨w.heap.size, 0, none⟩ = some (.string ⟨#[]⟩) := (blk_cell Zd.out 0).trans rfl
        have f0 : wd.frozen? ⟨w.heap.size, 0, none⟩ = false := blk_frozen Zd.out 0
        have d1 : wd.cell? ⟨w.heap.size, 1, none⟩ = some (.string ⟨#[]⟩) := (blk_cell Zd.out 1).trans rfl
        have f1 : wd.frozen? ⟨w.heap.size, 1, none⟩ = false := blk_frozen Zd.out 1
        have d2 : wd.cell? ⟨w.heap.size, 2, none⟩ = some (.int .i64 0) := (blk_cell Zd.out 2).trans rfl
        have f2 : wd.frozen? ⟨w.heap.size, 2, none⟩ = false := blk_frozen Zd.out 2
        have d3 : wd.cell? ⟨w.heap.size, 3, none⟩ = some (.string ⟨#[]⟩) := (blk_cell Zd.out 3).trans rfl
        have f3 : wd.frozen? ⟨w.heap.size, 3, none⟩ = false := blk_frozen Zd.out 3
        have d4 : wd.cell? ⟨w.heap.size, 4, none⟩ = some (.int .i64 0) := (blk_cell Zd.out 4).trans rfl
        have f4 : wd.frozen? ⟨w.heap.size, 4, none⟩ = false := blk_frozen Zd.out 4
        have d5 : wd.cell? ⟨w.heap.size, 5, none⟩ = some (.int .i64 0) := (blk_cell Zd.out 5).trans rfl
        have f5 : wd.frozen? ⟨w.heap.size, 5, none⟩ = false := blk_frozen Zd.out 5
        have d6 : wd.cell? ⟨w.heap.size, 6, none⟩ = some (.int .i64 0) := (blk_cell Zd.out 6).trans rfl
        have f6 : wd.frozen? ⟨w.heap.size, 6, none⟩ = false := blk_frozen Zd.out 6
        have d7 : wd.cell? ⟨w.heap.size, 7, none⟩ = some (.int .i64 0) := (blk_cell Zd.out 7).trans rfl
        have f7 : wd.frozen? ⟨w.heap.size, 7, none⟩ = false := blk_frozen Zd.out 7
        go_wp2_with fail
        refine bodyPost_ret (v := .agg #[.string p1, .string r1, .int .i64 (1 + n1), .string i1, .int .i64 V, .int .i64 sx, .int .i64 sy, .int .i64 z1]) ((results_c1 Try.results71 _ _ w.heap.size _ _ _ _ rfl (blk_set (blk_set (blk_set (blk_set (blk_set (blk_set (blk_set (blk_set (blk_far Zd.out (p := ⟨b, 4, none⟩) (by show w.heap.size ≠ b; omega) _) 0 _) 1 _) 2 _) 3 _) 4 _) 5 _) 6 _) 7 _) Try.underlying33 rfl (by simpa using lineSize)).trans (by simp)) rfl ⟨?_, ?_, ?_⟩
        · rw [HR.out]
        · rw [HR.out]; exact (((((((((Sd.out.far (p := ⟨b, 4, none⟩) hBb _).far (p := ⟨w.heap.size, 0, none⟩) hBw _).far (p := ⟨w.heap.size, 1, none⟩) hBw _).far (p := ⟨w.heap.size, 2, none⟩) hBw _).far (p := ⟨w.heap.size, 3, none⟩) hBw _).far (p := ⟨w.heap.size, 4, none⟩) hBw _).far (p := ⟨w.heap.size, 5, none⟩) hBw _).far (p := ⟨w.heap.size, 6, none⟩) hBw _).far (p := ⟨w.heap.size, 7, none⟩) hBw _)
        · exact (((((((((Nd.out.far (p := ⟨b, 4, none⟩) (by show w.heap.size ≤ b; omega) _).far (p := ⟨w.heap.size, 0, none⟩) (Nat.le_refl _) _).far (p := ⟨w.heap.size, 1, none⟩) (Nat.le_refl _) _).far (p := ⟨w.heap.size, 2, none⟩) (Nat.le_refl _) _).far (p := ⟨w.heap.size, 3, none⟩) (Nat.le_refl _) _).far (p := ⟨w.heap.size, 4, none⟩) (Nat.le_refl _) _).far (p := ⟨w.heap.size, 5, none⟩) (Nat.le_refl _) _).far (p := ⟨w.heap.size, 6, none⟩) (Nat.le_refl _) _).far (p := ⟨w.heap.size, 7, none⟩) (Nat.le_refl _) _)
      have p3 : (k1 == 3) = false := by simpa using q3
      have HR : Hid (lineF s = (⟨p1, r1, 1 + n1, t1, 1 + o1, sx, sy, z1⟩, s14)) := Lib.hid (by rw [HQ.out]; rw [if_neg q0, if_neg q1, if_neg q2, if_neg q3])
      clear HQ
      go_wp2_with fail
      refine (pick_calls (b := wc.heap.size) (T := 9) (l := lnOdd) (Sc.out.alloc _) (by simpa [lnOdd] using blk_new (w := wc)) hcg (by decide) (by decide)).mono ?_
      rw [E14.out]
      rintro e wd ⟨rfl, hs, hn⟩
      have Sd := Lib.hid hs
      have Nd := Lib.hid ((Nc.out.alloc _).trans hn)
      have Zd := Lib.hid (hn.blk (blk_alloc Zc.out _) (by omega))
      have Ld := Lib.hid (hn.blk (blk_alloc Lc.out _) hbg)
      clear hs hn Sc Nc Zc Lc
      have c0 : wd.cell? ⟨b, 0, none⟩ = some (.string p1) := (blk_cell Ld.out 0).trans rfl
      have c1 : wd.cell? ⟨b, 1, none⟩ = some (.string r1) := (blk_cell Ld.out 1).trans rfl
      have c2 : wd.cell? ⟨b, 2, none⟩ = some (.int .i64 (1 + n1)) := (blk_cell Ld.out 2).trans rfl
      have c3 : wd.cell? ⟨b, 3, none⟩ = some (.string i1) := (blk_cell Ld.out 3).trans rfl
      have c4 : wd.cell? ⟨b, 4, none⟩ = some (.int .i64 (1 + o1)) := (blk_cell Ld.out 4).trans rfl
      have c5 : wd.cell? ⟨b, 5, none⟩ = some (.int .i64 sx) := (blk_cell Ld.out 5).trans rfl
      have c6 : wd.cell? ⟨b, 6, none⟩ = some (.int .i64 sy) := (blk_cell Ld.out 6).trans rfl
      have c7 : wd.cell? ⟨b, 7, none⟩ = some (.int .i64 z1) := (blk_cell Ld.out 7).trans rfl
      have g3 : wd.frozen? ⟨b, 3, none⟩ = false := blk_frozen Ld.out 3
      have d0 : wd.cell? ⟨w.heap.size, 0, none⟩ = some (.string ⟨#[]⟩) := (blk_cell Zd.out 0).trans rfl
      have f0 : wd.frozen? ⟨w.heap.size, 0, none⟩ = false := blk_frozen Zd.out 0
      have d1 : wd.cell? ⟨w.heap.size, 1, none⟩ = some (.string ⟨#[]⟩) := (blk_cell Zd.out 1).trans rfl
      have f1 : wd.frozen? ⟨w.heap.size, 1, none⟩ = false := blk_frozen Zd.out 1
      have d2 : wd.cell? ⟨w.heap.size, 2, none⟩ = some (.int .i64 0) := (blk_cell Zd.out 2).trans rfl
      have f2 : wd.frozen? ⟨w.heap.size, 2, none⟩ = false := blk_frozen Zd.out 2
      have d3 : wd.cell? ⟨w.heap.size, 3, none⟩ = some (.string ⟨#[]⟩) := (blk_cell Zd.out 3).trans rfl
      have f3 : wd.frozen? ⟨w.heap.size, 3, none⟩ = false := blk_frozen Zd.out 3
      have d4 : wd.cell? ⟨w.heap.size, 4, none⟩ = some (.int .i64 0) := (blk_cell Zd.out 4).trans rfl
      have f4 : wd.frozen? ⟨w.heap.size, 4, none⟩ = false := blk_frozen Zd.out 4
      have d5 : wd.cell? ⟨w.heap.size, 5, none⟩ = some (.int .i64 0) := (blk_cell Zd.out 5).trans rfl
      have f5 : wd.frozen? ⟨w.heap.size, 5, none⟩ = false := blk_frozen Zd.out 5
      have d6 : wd.cell? ⟨w.heap.size, 6, none⟩ = some (.int .i64 0) := (blk_cell Zd.out 6).trans rfl
      have f6 : wd.frozen? ⟨w.heap.size, 6, none⟩ = false := blk_frozen Zd.out 6
      have d7 : wd.cell? ⟨w.heap.size, 7, none⟩ = some (.int .i64 0) := (blk_cell Zd.out 7).trans rfl
      have f7 : wd.frozen? ⟨w.heap.size, 7, none⟩ = false := blk_frozen Zd.out 7
      go_wp2_with fail
      refine bodyPost_ret (v := .agg #[.string p1, .string r1, .int .i64 (1 + n1), .string t1, .int .i64 (1 + o1), .int .i64 sx, .int .i64 sy, .int .i64 z1]) ((results_c1 Try.results71 _ _ w.heap.size _ _ _ _ rfl (blk_set (blk_set (blk_set (blk_set (blk_set (blk_set (blk_set (blk_set (blk_far Zd.out (p := ⟨b, 3, none⟩) (by show w.heap.size ≠ b; omega) _) 0 _) 1 _) 2 _) 3 _) 4 _) 5 _) 6 _) 7 _) Try.underlying33 rfl (by simpa using lineSize)).trans (by simp)) rfl ⟨?_, ?_, ?_⟩
      · rw [HR.out]
      · rw [HR.out]; exact (((((((((Sd.out.far (p := ⟨b, 3, none⟩) hBb _).far (p := ⟨w.heap.size, 0, none⟩) hBw _).far (p := ⟨w.heap.size, 1, none⟩) hBw _).far (p := ⟨w.heap.size, 2, none⟩) hBw _).far (p := ⟨w.heap.size, 3, none⟩) hBw _).far (p := ⟨w.heap.size, 4, none⟩) hBw _).far (p := ⟨w.heap.size, 5, none⟩) hBw _).far (p := ⟨w.heap.size, 6, none⟩) hBw _).far (p := ⟨w.heap.size, 7, none⟩) hBw _)
      · exact (((((((((Nd.out.far (p := ⟨b, 3, none⟩) (by show w.heap.size ≤ b; omega) _).far (p := ⟨w.heap.size, 0, none⟩) (Nat.le_refl _) _).far (p := ⟨w.heap.size, 1, none⟩) (Nat.le_refl _) _).far (p := ⟨w.heap.size, 2, none⟩) (Nat.le_refl _) _).far (p := ⟨w.heap.size, 3, none⟩) (Nat.le_refl _) _).far (p := ⟨w.heap.size, 4, none⟩) (Nat.le_refl _) _).far (p := ⟨w.heap.size, 5, none⟩) (Nat.le_refl _) _).far (p := ⟨w.heap.size, 6, none⟩) (Nat.le_refl _) _).far (p := ⟨w.heap.size, 7, none⟩) (Nat.le_refl _) _)
  · obtain ⟨sx, sy, hsx, hsy, HF', L⟩ : ∃ sx sy : Int, (0 ≤ sx ∧ sx ≤ 40) ∧ (0 ≤ sy ∧ sy ≤ 40) ∧ Hid (lineF s = lineC ⟨p1, r1, 1 + n1, i1, 1 + o1, sx, sy, z1⟩ s9) ∧ Hid (((w9.setCell ⟨b, 5, none⟩ (.int .i64 0)).setCell ⟨b, 6, none⟩ (.int .i64 0)).heap[b]? = some (lnO ⟨p1, r1, 1 + n1, i1, 1 + o1, sx, sy, z1⟩)) :=
      ⟨0, 0, by omega, by omega, Lib.hid (by rw [HF.out]; rfl), Lib.hid (blk_set (blk_set L9.out 5 _) 6 _)⟩
    have Sa := Lib.hid ((S9.out.far (p := ⟨b, 5, none⟩) hBb (.int .i64 0)).far (p := ⟨b, 6, none⟩) hBb (.int .i64 0))
    have Na := Lib.hid ((N9.out.far (p := ⟨b, 5, none⟩) (by show w.heap.size ≤ b; omega) (.int .i64 0)).far (p := ⟨b, 6, none⟩) (by show w.heap.size ≤ b; omega) (.int .i64 0))
    have Za := Lib.hid (blk_far (blk_far Z9.out (p := ⟨b, 5, none⟩) (by show w.heap.size ≠ b; omega) (.int .i64 0)) (p := ⟨b, 6, none⟩) (by show w.heap.size ≠ b; omega) (.int .i64 0))
    clear L9 HF S9 N9 Z9
    generalize (w9.setCell ⟨b, 5, none⟩ (.int .i64 0)).setCell ⟨b, 6, none⟩ (.int .i64 0) = wa at *
    clear E1 E2 E3 E4 E5 E6 E7 E8 E9 x1a x1b y1a y1b HS
    refine (one_calls Sa.out (by omega)).mono ?_
    rw [E10.out]
    rintro e wb ⟨rfl, hs, hn⟩
    have Sb := Lib.hid hs
    have Nb := Lib.hid (Na.out.trans hn)
    have Zb := Lib.hid (hn.blk Za.out (by omega))
    have Lb := Lib.hid (hn.blk L.out hbg)
    clear hs hn Sa Na Za L
    cases b1
    · have HR : Hid (lineF s = (⟨p1, r1, 1 + n1, i1, 1 + o1, sx, sy, z1⟩, s10)) := Lib.hid (by rw [HF'.out, HC.out]; rfl)
      clear HF' HC
      have c0 : wb.cell? ⟨b, 0, none⟩ = some (.string p1) := (blk_cell Lb.out 0).trans rfl
      have c1 : wb.cell? ⟨b, 1, none⟩ = some (.string r1) := (blk_cell Lb.out 1).trans rfl
      have c2 : wb.cell? ⟨b, 2, none⟩ = some (.int .i64 (1 + n1)) := (blk_cell Lb.out 2).trans rfl
      have c3 : wb.cell? ⟨b, 3, none⟩ = some (.string i1) := (blk_cell Lb.out 3).trans rfl
      have c4 : wb.cell? ⟨b, 4, none⟩ = some (.int .i64 (1 + o1)) := (blk_cell Lb.out 4).trans rfl
      have c5 : wb.cell? ⟨b, 5, none⟩ = some (.int .i64 sx) := (blk_cell Lb.out 5).trans rfl
      have c6 : wb.cell? ⟨b, 6, none⟩ = some (.int .i64 sy) := (blk_cell Lb.out 6).trans rfl
      have c7 : wb.cell? ⟨b, 7, none⟩ = some (.int .i64 z1) := (blk_cell Lb.out 7).trans rfl
      have d0 : wb.cell? ⟨w.heap.size, 0, none⟩ = some (.string ⟨#[]⟩) := (blk_cell Zb.out 0).trans rfl
      have f0 : wb.frozen? ⟨w.heap.size, 0, none⟩ = false := blk_frozen Zb.out 0
      have d1 : wb.cell? ⟨w.heap.size, 1, none⟩ = some (.string ⟨#[]⟩) := (blk_cell Zb.out 1).trans rfl
      have f1 : wb.frozen? ⟨w.heap.size, 1, none⟩ = false := blk_frozen Zb.out 1
      have d2 : wb.cell? ⟨w.heap.size, 2, none⟩ = some (.int .i64 0) := (blk_cell Zb.out 2).trans rfl
      have f2 : wb.frozen? ⟨w.heap.size, 2, none⟩ = false := blk_frozen Zb.out 2
      have d3 : wb.cell? ⟨w.heap.size, 3, none⟩ = some (.string ⟨#[]⟩) := (blk_cell Zb.out 3).trans rfl
      have f3 : wb.frozen? ⟨w.heap.size, 3, none⟩ = false := blk_frozen Zb.out 3
      have d4 : wb.cell? ⟨w.heap.size, 4, none⟩ = some (.int .i64 0) := (blk_cell Zb.out 4).trans rfl
      have f4 : wb.frozen? ⟨w.heap.size, 4, none⟩ = false := blk_frozen Zb.out 4
      have d5 : wb.cell? ⟨w.heap.size, 5, none⟩ = some (.int .i64 0) := (blk_cell Zb.out 5).trans rfl
      have f5 : wb.frozen? ⟨w.heap.size, 5, none⟩ = false := blk_frozen Zb.out 5
      have d6 : wb.cell? ⟨w.heap.size, 6, none⟩ = some (.int .i64 0) := (blk_cell Zb.out 6).trans rfl
      have f6 : wb.frozen? ⟨w.heap.size, 6, none⟩ = false := blk_frozen Zb.out 6
      have d7 : wb.cell? ⟨w.heap.size, 7, none⟩ = some (.int .i64 0) := (blk_cell Zb.out 7).trans rfl
      have f7 : wb.frozen? ⟨w.heap.size, 7, none⟩ = false := blk_frozen Zb.out 7
      go_wp2_with fail
      refine bodyPost_ret (v := .agg #[.string p1, .string r1, .int .i64 (1 + n1), .string i1, .int .i64 (1 + o1), .int .i64 sx, .int .i64 sy, .int .i64 z1]) ((results_c1 Try.results71 _ _ w.heap.size _ _ _ _ rfl (blk_set (blk_set (blk_set (blk_set (blk_set (blk_set (blk_set (blk_set Zb.out 0 _) 1 _) 2 _) 3 _) 4 _) 5 _) 6 _) 7 _) Try.underlying33 rfl (by simpa using lineSize)).trans (by simp)) rfl ⟨?_, ?_, ?_⟩
      · rw [HR.out]
      · rw [HR.out]; exact ((((((((Sb.out.far (p := ⟨w.heap.size, 0, none⟩) hBw _).far (p := ⟨w.heap.size, 1, none⟩) hBw _).far (p := ⟨w.heap.size, 2, none⟩) hBw _).far (p := ⟨w.heap.size, 3, none⟩) hBw _).far (p := ⟨w.heap.size, 4, none⟩) hBw _).far (p := ⟨w.heap.size, 5, none⟩) hBw _).far (p := ⟨w.heap.size, 6, none⟩) hBw _).far (p := ⟨w.heap.size, 7, none⟩) hBw _)
      · exact ((((((((Nb.out.far (p := ⟨w.heap.size, 0, none⟩) (Nat.le_refl _) _).far (p := ⟨w.heap.size, 1, none⟩) (Nat.le_refl _) _).far (p := ⟨w.heap.size, 2, none⟩) (Nat.le_refl _) _).far (p := ⟨w.heap.size, 3, none⟩) (Nat.le_refl _) _).far (p := ⟨w.heap.size, 4, none⟩) (Nat.le_refl _) _).far (p := ⟨w.heap.size, 5, none⟩) (Nat.le_refl _) _).far (p := ⟨w.heap.size, 6, none⟩) (Nat.le_refl _) _).far (p := ⟨w.heap.size, 7, none⟩) (Nat.le_refl _) _)
    · have HQ := Lib.hid (HF'.out.trans ((HC.out _).trans (if_pos rfl)))
      clear HF' HC
      go_wp2_with fail
      refine (n_calls Sb.out (by omega)).mono ?_
      rw [E11.out]
      rintro e wc ⟨rfl, hs, hn⟩
      have Sc := Lib.hid hs
      have Nc := Lib.hid (Nb.out.trans hn)
      have Zc := Lib.hid (hn.blk Zb.out (by omega))
      have Lc := Lib.hid (hn.blk Lb.out hbg)
      clear hs hn Sb Nb Zb Lb
      by_cases q0 : k1 = 0
      · have HR : Hid (lineF s = (⟨p1, r1, 1 + n1, i1, 1 + o1, sx, sy, z1 + (1 + o1)⟩, s11)) := Lib.hid (by rw [HQ.out]; rw [if_pos q0])
        clear HQ
        subst q0
        have c0 : wc.cell? ⟨b, 0, none⟩ = some (.string p1) := (blk_cell Lc.out 0).trans rfl
        have c1 : wc.cell? ⟨b, 1, none⟩ = some (.string r1) := (blk_cell Lc.out 1).trans rfl
        have c2 : wc.cell? ⟨b, 2, none⟩ = some (.int .i64 (1 + n1)) := (blk_cell Lc.out 2).trans rfl
        have c3 : wc.cell? ⟨b, 3, none⟩ = some (.string i1) := (blk_cell Lc.out 3).trans rfl
        have c4 : wc.cell? ⟨b, 4, none⟩ = some (.int .i64 (1 + o1)) := (blk_cell Lc.out 4).trans rfl
        have c5 : wc.cell? ⟨b, 5, none⟩ = some (.int .i64 sx) := (blk_cell Lc.out 5).trans rfl
        have c6 : wc.cell? ⟨b, 6, none⟩ = some (.int .i64 sy) := (blk_cell Lc.out 6).trans rfl
        have c7 : wc.cell? ⟨b, 7, none⟩ = some (.int .i64 z1) := (blk_cell Lc.out 7).trans rfl
        have g7 : wc.frozen? ⟨b, 7, none⟩ = false := blk_frozen Lc.out 7
        have d0 : wc.cell? ⟨w.heap.size, 0, none⟩ = some (.string ⟨#[]⟩) := (blk_cell Zc.out 0).trans rfl
        have f0 : wc.frozen? ⟨w.heap.size, 0, none⟩ = false := blk_frozen Zc.out 0
        have d1 : wc.cell? ⟨w.heap.size, 1, none⟩ = some (.string ⟨#[]⟩) := (blk_cell Zc.out 1).trans rfl
        have f1 : wc.frozen? ⟨w.heap.size, 1, none⟩ = false := blk_frozen Zc.out 1
        have d2 : wc.cell? ⟨w.heap.size, 2, none⟩ = some (.int .i64 0) := (blk_cell Zc.out 2).trans rfl
        have f2 : wc.frozen? ⟨w.heap.size, 2, none⟩ = false := blk_frozen Zc.out 2
        have d3 : wc.cell? ⟨w.heap.size, 3, none⟩ = some (.string ⟨#[]⟩) := (blk_cell Zc.out 3).trans rfl
        have f3 : wc.frozen? ⟨w.heap.size, 3, none⟩ = false := blk_frozen Zc.out 3
        have d4 : wc.cell? ⟨w.heap.size, 4, none⟩ = some (.int .i64 0) := (blk_cell Zc.out 4).trans rfl
        have f4 : wc.frozen? ⟨w.heap.size, 4, none⟩ = false := blk_frozen Zc.out 4
        have d5 : wc.cell? ⟨w.heap.size, 5, none⟩ = some (.int .i64 0) := (blk_cell Zc.out 5).trans rfl
        have f5 : wc.frozen? ⟨w.heap.size, 5, none⟩ = false := blk_frozen Zc.out 5
        have d6 : wc.cell? ⟨w.heap.size, 6, none⟩ = some (.int .i64 0) := (blk_cell Zc.out 6).trans rfl
        have f6 : wc.frozen? ⟨w.heap.size, 6, none⟩ = false := blk_frozen Zc.out 6
        have d7 : wc.cell? ⟨w.heap.size, 7, none⟩ = some (.int .i64 0) := (blk_cell Zc.out 7).trans rfl
        have f7 : wc.frozen? ⟨w.heap.size, 7, none⟩ = false := blk_frozen Zc.out 7
        go_wp2_with fail
        refine bodyPost_ret (v := .agg #[.string p1, .string r1, .int .i64 (1 + n1), .string i1, .int .i64 (1 + o1), .int .i64 sx, .int .i64 sy, .int .i64 (z1 + (1 + o1))]) ((results_c1 Try.results71 _ _ w.heap.size _ _ _ _ rfl (blk_set (blk_set (blk_set (blk_set (blk_set (blk_set (blk_set (blk_set (blk_far Zc.out (p := ⟨b, 7, none⟩) (by show w.heap.size ≠ b; omega) _) 0 _) 1 _) 2 _) 3 _) 4 _) 5 _) 6 _) 7 _) Try.underlying33 rfl (by simpa using lineSize)).trans (by simp)) rfl ⟨?_, ?_, ?_⟩
        · rw [HR.out]
        · rw [HR.out]; exact (((((((((Sc.out.far (p := ⟨b, 7, none⟩) hBb _).far (p := ⟨w.heap.size, 0, none⟩) hBw _).far (p := ⟨w.heap.size, 1, none⟩) hBw _).far (p := ⟨w.heap.size, 2, none⟩) hBw _).far (p := ⟨w.heap.size, 3, none⟩) hBw _).far (p := ⟨w.heap.size, 4, none⟩) hBw _).far (p := ⟨w.heap.size, 5, none⟩) hBw _).far (p := ⟨w.heap.size, 6, none⟩) hBw _).far (p := ⟨w.heap.size, 7, none⟩) hBw _)
        · exact (((((((((Nc.out.far (p := ⟨b, 7, none⟩) (by show w.heap.size ≤ b; omega) _).far (p := ⟨w.heap.size, 0, none⟩) (Nat.le_refl _) _).far (p := ⟨w.heap.size, 1, none⟩) (Nat.le_refl _) _).far (p := ⟨w.heap.size, 2, none⟩) (Nat.le_refl _) _).far (p := ⟨w.heap.size, 3, none⟩) (Nat.le_refl _) _).far (p := ⟨w.heap.size, 4, none⟩) (Nat.le_refl _) _).far (p := ⟨w.heap.size, 5, none⟩) (Nat.le_refl _) _).far (p := ⟨w.heap.size, 6, none⟩) (Nat.le_refl _) _).far (p := ⟨w.heap.size, 7, none⟩) (Nat.le_refl _) _)
      have p0 : (k1 == 0) = false := by simpa using q0
      by_cases q1 : k1 = 1
      · have HR : Hid (lineF s = (⟨p1, r1, 1 + n1, i1, 1 + o1, sx, sx + 1, z1⟩, s11)) := Lib.hid (by rw [HQ.out]; rw [if_neg q0, if_pos q1])
        clear HQ
        subst q1
        have c0 : wc.cell? ⟨b, 0, none⟩ = some (.string p1) := (blk_cell Lc.out 0).trans rfl
        have c1 : wc.cell? ⟨b, 1, none⟩ = some (.string r1) := (blk_cell Lc.out 1).trans rfl
        have c2 : wc.cell? ⟨b, 2, none⟩ = some (.int .i64 (1 + n1)) := (blk_cell Lc.out 2).trans rfl
        have c3 : wc.cell? ⟨b, 3, none⟩ = some (.string i1) := (blk_cell Lc.out 3).trans rfl
        have c4 : wc.cell? ⟨b, 4, none⟩ = some (.int .i64 (1 + o1)) := (blk_cell Lc.out 4).trans rfl
        have c5 : wc.cell? ⟨b, 5, none⟩ = some (.int .i64 sx) := (blk_cell Lc.out 5).trans rfl
        have c6 : wc.cell? ⟨b, 6, none⟩ = some (.int .i64 sy) := (blk_cell Lc.out 6).trans rfl
        have c7 : wc.cell? ⟨b, 7, none⟩ = some (.int .i64 z1) := (blk_cell Lc.out 7).trans rfl
        have g6 : wc.frozen? ⟨b, 6, none⟩ = false := blk_frozen Lc.out 6
        have d0 : wc.cell? ⟨w.heap.size, 0, none⟩ = some (.string ⟨#[]⟩) := (blk_cell Zc.out 0).trans rfl
        have f0 : wc.frozen? ⟨w.heap.size, 0, none⟩ = false := blk_frozen Zc.out 0
        have d1 : wc.cell? ⟨w.heap.size, 1, none⟩ = some (.string ⟨#[]⟩) := (blk_cell Zc.out 1).trans rfl
        have f1 : wc.frozen? ⟨w.heap.size, 1, none⟩ = false := blk_frozen Zc.out 1
        have d2 : wc.cell? ⟨w.heap.size, 2, none⟩ = some (.int .i64 0) := (blk_cell Zc.out 2).trans rfl
        have f2 : wc.frozen? ⟨w.heap.size, 2, none⟩ = false := blk_frozen Zc.out 2
        have d3 : wc.cell? ⟨w.heap.size, 3, none⟩ = some (.string ⟨#[]⟩) := (blk_cell Zc.out 3).trans rfl
        have f3 : wc.frozen? ⟨w.heap.size, 3, none⟩ = false := blk_frozen Zc.out 3
        have d4 : wc.cell? ⟨w.heap.size, 4, none⟩ = some (.int .i64 0) := (blk_cell Zc.out 4).trans rfl
        have f4 : wc.frozen? ⟨w.heap.size, 4, none⟩ = false := blk_frozen Zc.out 4
        have d5 : wc.cell? ⟨w.heap.size, 5, none⟩ = some (.int .i64 0) := (blk_cell Zc.out 5).trans rfl
        have f5 : wc.frozen? ⟨w.heap.size, 5, none⟩ = false := blk_frozen Zc.out 5
        have d6 : wc.cell? ⟨w.heap.size, 6, none⟩ = some (.int .i64 0) := (blk_cell Zc.out 6).trans rfl
        have f6 : wc.frozen? ⟨w.heap.size, 6, none⟩ = false := blk_frozen Zc.out 6
        have d7 : wc.cell? ⟨w.heap.size, 7, none⟩ = some (.int .i64 0) := (blk_cell Zc.out 7).trans rfl
        have f7 : wc.frozen? ⟨w.heap.size, 7, none⟩ = false := blk_frozen Zc.out 7
        go_wp2_with fail
        refine bodyPost_ret (v := .agg #[.string p1, .string r1, .int .i64 (1 + n1), .string i1, .int .i64 (1 + o1), .int .i64 sx, .int .i64 (sx + 1), .int .i64 z1]) ((results_c1 Try.results71 _ _ w.heap.size _ _ _ _ rfl (blk_set (blk_set (blk_set (blk_set (blk_set (blk_set (blk_set (blk_set (blk_far Zc.out (p := ⟨b, 6, none⟩) (by show w.heap.size ≠ b; omega) _) 0 _) 1 _) 2 _) 3 _) 4 _) 5 _) 6 _) 7 _) Try.underlying33 rfl (by simpa using lineSize)).trans (by simp)) rfl ⟨?_, ?_, ?_⟩
        · rw [HR.out]
        · rw [HR.out]; exact (((((((((Sc.out.far (p := ⟨b, 6, none⟩) hBb _).far (p := ⟨w.heap.size, 0, none⟩) hBw _).far (p := ⟨w.heap.size, 1, none⟩) hBw _).far (p := ⟨w.heap.size, 2, none⟩) hBw _).far (p := ⟨w.heap.size, 3, none⟩) hBw _).far (p := ⟨w.heap.size, 4, none⟩) hBw _).far (p := ⟨w.heap.size, 5, none⟩) hBw _).far (p := ⟨w.heap.size, 6, none⟩) hBw _).far (p := ⟨w.heap.size, 7, none⟩) hBw _)
        · exact (((((((((Nc.out.far (p := ⟨b, 6, none⟩) (by show w.heap.size ≤ b; omega) _).far (p := ⟨w.heap.size, 0, none⟩) (Nat.le_refl _) _).far (p := ⟨w.heap.size, 1, none⟩) (Nat.le_refl _) _).far (p := ⟨w.heap.size, 2, none⟩) (Nat.le_refl _) _).far (p := ⟨w.heap.size, 3, none⟩) (Nat.le_refl _) _).far (p := ⟨w.heap.size, 4, none⟩) (Nat.le_refl _) _).far (p := ⟨w.heap.size, 5, none⟩) (Nat.le_refl _) _).far (p := ⟨w.heap.size, 6, none⟩) (Nat.le_refl _) _).far (p := ⟨w.heap.size, 7, none⟩) (Nat.le_refl _) _)
      have p1' : (k1 == 1) = false := by simpa using q1
      by_cases q2 : k1 = 2
      · have HR : Hid (lineF s = (⟨p1, r1, 1000 * u1, i1, 1 + o1, sx, sy, z1⟩, s12)) := Lib.hid (by rw [HQ.out]; rw [if_neg q0, if_neg q1, if_pos q2])
        clear HQ
        subst q2
        go_wp2_with fail
        refine (n_calls Sc.out (by omega)).mono ?_
        rw [E12.out]
        rintro e wd ⟨rfl, hs, hn⟩
        have Sd := Lib.hid hs
        have Nd := Lib.hid (Nc.out.trans hn)
        have Zd := Lib.hid (hn.blk Zc.out (by omega))
        have Ld := Lib.hid (hn.blk Lc.out hbg)
        clear hs hn Sc Nc Zc Lc
        have c0 : wd.cell? ⟨b, 0, none⟩ = some (.string p1) := (blk_cell Ld.out 0).trans rfl
        have c1 : wd.cell? ⟨b, 1, none⟩ = some (.string r1) := (blk_cell Ld.out 1).trans rfl
        have c2 : wd.cell? ⟨b, 2, none⟩ = some (.int .i64 (1 + n1)) := (blk_cell Ld.out 2).trans rfl
        have c3 : wd.cell? ⟨b, 3, none⟩ = some (.string i1) := (blk_cell Ld.out 3).trans rfl
        have c4 : wd.cell? ⟨b, 4, none⟩ = some (.int .i64 (1 + o1)) := (blk_cell Ld.out 4).trans rfl
        have c5 : wd.cell? ⟨b, 5, none⟩ = some (.int .i64 sx) := (blk_cell Ld.out 5).trans rfl
        have c6 : wd.cell? ⟨b, 6, none⟩ = some (.int .i64 sy) := (blk_cell Ld.out 6).trans rfl
        have c7 : wd.cell? ⟨b, 7, none⟩ = some (.int .i64 z1) := (blk_cell Ld.out 7).trans rfl
        have g2 : wd.frozen? ⟨b, 2, none⟩ = false := blk_frozen Ld.out 2
        have d0 : wd.cell? ⟨w.heap.size, 0, none⟩ = some (.string ⟨#[]⟩) := (blk_cell Zd.out 0).trans rfl
        have f0 : wd.frozen? ⟨w.heap.size, 0, none⟩ = false := blk_frozen Zd.out 0
        have d1 : wd.cell? ⟨w.heap.size, 1, none⟩ = some (.string ⟨#[]⟩) := (blk_cell Zd.out 1).trans rfl
        have f1 : wd.frozen? ⟨w.heap.size, 1, none⟩ = false := blk_frozen Zd.out 1
        have d2 : wd.cell? ⟨w.heap.size, 2, none⟩ = some (.int .i64 0) := (blk_cell Zd.out 2).trans rfl
        have f2 : wd.frozen? ⟨w.heap.size, 2, none⟩ = false := blk_frozen Zd.out 2
        have d3 : wd.cell? ⟨w.heap.size, 3, none⟩ = some (.string ⟨#[]⟩) := (blk_cell Zd.out 3).trans rfl
        have f3 : wd.frozen? ⟨w.heap.size, 3, none⟩ = false := blk_frozen Zd.out 3
        have d4 : wd.cell? ⟨w.heap.size, 4, none⟩ = some (.int .i64 0) := (blk_cell Zd.out 4).trans rfl
        have f4 : wd.frozen? ⟨w.heap.size, 4, none⟩ = false := blk_frozen Zd.out 4
        have d5 : wd.cell? ⟨w.heap.size, 5, none⟩ = some (.int .i64 0) := (blk_cell Zd.out 5).trans rfl
        have f5 : wd.frozen? ⟨w.heap.size, 5, none⟩ = false := blk_frozen Zd.out 5
        have d6 : wd.cell? ⟨w.heap.size, 6, none⟩ = some (.int .i64 0) := (blk_cell Zd.out 6).trans rfl
        have f6 : wd.frozen? ⟨w.heap.size, 6, none⟩ = false := blk_frozen Zd.out 6
        have d7 : wd.cell? ⟨w.heap.size, 7, none⟩ = some (.int .i64 0) := (blk_cell Zd.out 7).trans rfl
        have f7 : wd.frozen? ⟨w.heap.size, 7, none⟩ = false := blk_frozen Zd.out 7
        go_wp2_with fail
        refine bodyPost_ret (v := .agg #[.string p1, .string r1, .int .i64 (1000 * u1), .string i1, .int .i64 (1 + o1), .int .i64 sx, .int .i64 sy, .int .i64 z1]) ((results_c1 Try.results71 _ _ w.heap.size _ _ _ _ rfl (blk_set (blk_set (blk_set (blk_set (blk_set (blk_set (blk_set (blk_set (blk_far Zd.out (p := ⟨b, 2, none⟩) (by show w.heap.size ≠ b; omega) _) 0 _) 1 _) 2 _) 3 _) 4 _) 5 _) 6 _) 7 _) Try.underlying33 rfl (by simpa using lineSize)).trans (by simp)) rfl ⟨?_, ?_, ?_⟩
        · rw [HR.out]
        · rw [HR.out]; exact (((((((((Sd.out.far (p := ⟨b, 2, none⟩) hBb _).far (p := ⟨w.heap.size, 0, none⟩) hBw _).far (p := ⟨w.heap.size, 1, none⟩) hBw _).far (p := ⟨w.heap.size, 2, none⟩) hBw _).far (p := ⟨w.heap.size, 3, none⟩) hBw _).far (p := ⟨w.heap.size, 4, none⟩) hBw _).far (p := ⟨w.heap.size, 5, none⟩) hBw _).far (p := ⟨w.heap.size, 6, none⟩) hBw _).far (p := ⟨w.heap.size, 7, none⟩) hBw _)
        · exact (((((((((Nd.out.far (p := ⟨b, 2, none⟩) (by show w.heap.size ≤ b; omega) _).far (p := ⟨w.heap.size, 0, none⟩) (Nat.le_refl _) _).far (p := ⟨w.heap.size, 1, none⟩) (Nat.le_refl _) _).far (p := ⟨w.heap.size, 2, none⟩) (Nat.le_refl _) _).far (p := ⟨w.heap.size, 3, none⟩) (Nat.le_refl _) _).far (p := ⟨w.heap.size, 4, none⟩) (Nat.le_refl _) _).far (p := ⟨w.heap.size, 5, none⟩) (Nat.le_refl _) _).far (p := ⟨w.heap.size, 6, none⟩) (Nat.le_refl _) _).far (p := ⟨w.heap.size, 7, none⟩) (Nat.le_refl _) _)
      have p2 : (k1 == 2) = false := by simpa using q2
      have hcg : wc.heap.size ≠ g := by have := Sc.out.lt; omega
      by_cases q3 : k1 = 3
      · obtain ⟨kk, rfl⟩ : ∃ kk : Nat, v1 = kk := ⟨v1.toNat, by omega⟩
        obtain ⟨V, hV⟩ : ∃ V, ([0, 1000000, 1000001] : List Int).getD kk 0 = V := ⟨_, rfl⟩
        have HR : Hid (lineF s = (⟨p1, r1, 1 + n1, i1, V, sx, sy, z1⟩, s13)) := Lib.hid (by rw [HQ.out]; rw [if_neg q0, if_neg q1, if_neg q2, if_pos q3]; simp only [Int.toNat_natCast, hV])
        clear HQ
        subst q3
        go_wp2_with fail
        refine (n_calls (Sc.out.alloc _) (by omega)).mono ?_
        rw [E13.out]
        rintro e wd ⟨rfl, hs, hn⟩
        have Sd := Lib.hid hs
        have Nd := Lib.hid ((Nc.out.alloc _).trans hn)
        have Zd := Lib.hid (hn.blk (blk_alloc Zc.out _) (by omega))
        have Ld := Lib.hid (hn.blk (blk_alloc Lc.out _) hbg)
        have hv : wd.cell? ⟨wc.heap.size, kk, none⟩ = some (.int .i64 V) := by
              have := blk_cell (hn.blk (blk_new (w := wc)) hcg) kk
              rw [this, ← hV]
              have h3 : kk = 0 ∨ kk = 1 ∨ kk = 2 := by omega
              rcases h3 with rfl | rfl | rfl <;> rfl
        have hk3 : kk < 3 := by omega
        clear hs hn Sc Nc Zc Lc hV
        have c0 : wd.cell? ⟨b, 0, none⟩ = some (.string p1) := (blk_cell Ld.out 0).trans rfl
        have c1 : wd.cell? ⟨b, 1, none⟩ = some (.string r1) := (blk_cell Ld.out 1).trans rfl
        have c2 : wd.cell? ⟨b, 2, none⟩ = some (.int .i64 (1 + n1)) := (blk_cell Ld.out 2).trans rfl
        have c3 : wd.cell? ⟨b, 3, none⟩ = some (.string i1) := (blk_cell Ld.out 3).trans rfl
        have c4 : wd.cell? ⟨b, 4, none⟩ = some (.int .i64 (1 + o1)) := (blk_cell Ld.out 4).trans rfl
        have c5 : wd.cell? ⟨b, 5, none⟩ = some (.int .i64 sx) := (blk_cell Ld.out 5).trans rfl
        have c6 : wd.cell? ⟨b, 6, none⟩ = some (.int .i64 sy) := (blk_cell Ld.out 6).trans rfl
        have c7 : wd.cell? ⟨b, 7, none⟩ = some (.int .i64 z1) := (blk_cell Ld.out 7).trans rfl
        have g4 : wd.frozen? ⟨b, 4, none⟩ = false := blk_frozen Ld.out 4
        have d0 : wd.cell? ⟨w.heap.size, 0, none⟩ = some (.string ⟨#[]⟩) := (blk_cell Zd.out 0).trans rfl
        have f0 : wd.frozen? ⟨w.heap.size, 0, none⟩ = false := blk_frozen Zd.out 0
        have d1 : wd.cell? ⟨w.heap.size, 1, none⟩ = some (.string ⟨#[]⟩) := (blk_cell Zd.out 1).trans rfl
        have f1 : wd.frozen? ⟨w.heap.size, 1, none⟩ = false := blk_frozen Zd.out 1
        have d2 : wd.cell? ⟨w.heap.size, 2, none⟩ = some (.int .i64 0) := (blk_cell Zd.out 2).trans rfl
        have f2 : wd.frozen? ⟨w.heap.size, 2, none⟩ = false := blk_frozen Zd.out 2
        have d3 : wd.cell? ⟨w.heap.size, 3, none⟩ = some (.string ⟨#[]⟩) := (blk_cell Zd.out 3).trans rfl
        have f3 : wd.frozen? ⟨w.heap.size, 3, none⟩ = false := blk_frozen Zd.out 3
        have d4 : wd.cell? ⟨w.heap.size, 4, none⟩ = some (.int .i64 0) := (blk_cell Zd.out 4).trans rfl
        have f4 : wd.frozen? ⟨w.heap.size, 4, none⟩ = false := blk_frozen Zd.out 4
        have d5 : wd.cell? ⟨w.heap.size, 5, none⟩ = some (.int .i64 0) := (blk_cell Zd.out 5).trans rfl
        have f5 : wd.frozen? ⟨w.heap.size, 5, none⟩ = false := blk_frozen Zd.out 5
        have d6 : wd.cell? ⟨w.heap.size, 6, none⟩ = some (.int .i64 0) := (blk_cell Zd.out 6).trans rfl
        have f6 : wd.frozen? ⟨w.heap.size, 6, none⟩ = false := blk_frozen Zd.out 6
        have d7 : wd.cell? ⟨w.heap.size, 7, none⟩ = some (.int .i64 0) := (blk_cell Zd.out 7).trans rfl
        have f7 : wd.frozen? ⟨w.heap.size, 7, none⟩ = false := blk_frozen Zd.out 7
        go_wp2_with fail
        refine bodyPost_ret (v := .agg #[.string p1, .string r1, .int .i64 (1 + n1), .string i1, .int .i64 V, .int .i64 sx, .int .i64 sy, .int .i64 z1]) ((results_c1 Try.results71 _ _ w.heap.size _ _ _ _ rfl (blk_set (blk_set (blk_set (blk_set (blk_set (blk_set (blk_set (blk_set (blk_far Zd.out (p := ⟨b, 4, none⟩) (by show w.heap.size ≠ b; omega) _) 0 _) 1 _) 2 _) 3 _) 4 _) 5 _) 6 _) 7 _) Try.underlying33 rfl (by simpa using lineSize)).trans (by simp)) rfl ⟨?_, ?_, ?_⟩
        · rw [HR.out]
        · rw [HR.out]; exact (((((((((Sd.out.far (p := ⟨b, 4, none⟩) hBb _).far (p := ⟨w.heap.size, 0, none⟩) hBw _).far (p := ⟨w.heap.size, 1, none⟩) hBw _).far (p := ⟨w.heap.size, 2, none⟩) hBw _).far (p := ⟨w.heap.size, 3, none⟩) hBw _).far (p := ⟨w.heap.size, 4, none⟩) hBw _).far (p := ⟨w.heap.size, 5, none⟩) hBw _).far (p := ⟨w.heap.size, 6, none⟩) hBw _).far (p := ⟨w.heap.size, 7, none⟩) hBw _)
        · exact (((((((((Nd.out.far (p := ⟨b, 4, none⟩) (by show w.heap.size ≤ b; omega) _).far (p := ⟨w.heap.size, 0, none⟩) (Nat.le_refl _) _).far (p := ⟨w.heap.size, 1, none⟩) (Nat.le_refl _) _).far (p := ⟨w.heap.size, 2, none⟩) (Nat.le_refl _) _).far (p := ⟨w.heap.size, 3, none⟩) (Nat.le_refl _) _).far (p := ⟨w.heap.size, 4, none⟩) (Nat.le_refl _) _).far (p := ⟨w.heap.size, 5, none⟩) (Nat.le_refl _) _).far (p := ⟨w.heap.size, 6, none⟩) (Nat.le_refl _) _).far (p := ⟨w.heap.size, 7, none⟩) (Nat.le_refl _) _)
      have p3 : (k1 == 3) = false := by simpa using q3
      have HR : Hid (lineF s = (⟨p1, r1, 1 + n1, t1, 1 + o1, sx, sy, z1⟩, s14)) := Lib.hid (by rw [HQ.out]; rw [if_neg q0, if_neg q1, if_neg q2, if_neg q3])
      clear HQ
      go_wp2_with fail
      refine (pick_calls (b := wc.heap.size) (T := 9) (l := lnOdd) (Sc.out.alloc _) (by simpa [lnOdd] using blk_new (w := wc)) hcg (by decide) (by decide)).mono ?_
      rw [E14.out]
      rintro e wd ⟨rfl, hs, hn⟩
      have Sd := Lib.hid hs
      have Nd := Lib.hid ((Nc.out.alloc _).trans hn)
      have Zd := Lib.hid (hn.blk (blk_alloc Zc.out _) (by omega))
      have Ld := Lib.hid (hn.blk (blk_alloc Lc.out _) hbg)
      clear hs hn Sc Nc Zc Lc
      have c0 : wd.cell? ⟨b, 0, none⟩ = some (.string p1) := (blk_cell Ld.out 0).trans rfl
      have c1 : wd.cell? ⟨b, 1, none⟩ = some (.string r1) := (blk_cell Ld.out 1).trans rfl
      have c2 : wd.cell? ⟨b, 2, none⟩ = some (.int .i64 (1 + n1)) := (blk_cell Ld.out 2).trans rfl
      have c3 : wd.cell? ⟨b, 3, none⟩ = some (.string i1) := (blk_cell Ld.out 3).trans rfl
      have c4 : wd.cell? ⟨b, 4, none⟩ = some (.int .i64 (1 + o1)) := (blk_cell Ld.out 4).trans rfl
      have c5 : wd.cell? ⟨b, 5, none⟩ = some (.int .i64 sx) := (blk_cell Ld.out 5).trans rfl
      have c6 : wd.cell? ⟨b, 6, none⟩ = some (.int .i64 sy) := (blk_cell Ld.out 6).trans rfl
      have c7 : wd.cell? ⟨b, 7, none⟩ = some (.int .i64 z1) := (blk_cell Ld.out 7).trans rfl
      have g3 : wd.frozen? ⟨b, 3, none⟩ = false := blk_frozen Ld.out 3
      have d0 : wd.cell? ⟨w.heap.size, 0, none⟩ = some (.string ⟨#[]⟩) := (blk_cell Zd.out 0).trans rfl
      have f0 : wd.frozen? ⟨w.heap.size, 0, none⟩ = false := blk_frozen Zd.out 0
      have d1 : wd.cell? ⟨w.heap.size, 1, none⟩ = some (.string ⟨#[]⟩) := (blk_cell Zd.out 1).trans rfl
      have f1 : wd.frozen? ⟨w.heap.size, 1, none⟩ = false := blk_frozen Zd.out 1
      have d2 : wd.cell? ⟨w.heap.size, 2, none⟩ = some (.int .i64 0) := (blk_cell Zd.out 2).trans rfl
      have f2 : wd.frozen? ⟨w.heap.size, 2, none⟩ = false := blk_frozen Zd.out 2
      have d3 : wd.cell? ⟨w.heap.size, 3, none⟩ = some (.string ⟨#[]⟩) := (blk_cell Zd.out 3).trans rfl
      have f3 : wd.frozen? ⟨w.heap.size, 3, none⟩ = false := blk_frozen Zd.out 3
      have d4 : wd.cell? ⟨w.heap.size, 4, none⟩ = some (.int .i64 0) := (blk_cell Zd.out 4).trans rfl
      have f4 : wd.frozen? ⟨w.heap.size, 4, none⟩ = false := blk_frozen Zd.out 4
      have d5 : wd.cell? ⟨w.heap.size, 5, none⟩ = some (.int .i64 0) := (blk_cell Zd.out 5).trans rfl
      have f5 : wd.frozen? ⟨w.heap.size, 5, none⟩ = false := blk_frozen Zd.out 5
      have d6 : wd.cell? ⟨w.heap.size, 6, none⟩ = some (.int .i64 0) := (blk_cell Zd.out 6).trans rfl
      have f6 : wd.frozen? ⟨w.heap.size, 6, none⟩ = false := blk_frozen Zd.out 6
      have d7 : wd.cell? ⟨w.heap.size, 7, none⟩ = some (.int .i64 0) := (blk_cell Zd.out 7).trans rfl
      have f7 : wd.frozen? ⟨w.heap.size, 7, none⟩ = false := blk_frozen Zd.out 7
      go_wp2_with fail
      refine bodyPost_ret (v := .agg #[.string p1, .string r1, .int .i64 (1 + n1), .string t1, .int .i64 (1 + o1), .int .i64 sx, .int .i64 sy, .int .i64 z1]) ((results_c1 Try.results71 _ _ w.heap.size _ _ _ _ rfl (blk_set (blk_set (blk_set (blk_set (blk_set (blk_set (blk_set (blk_set (blk_far Zd.out (p := ⟨b, 3, none⟩) (by show w.heap.size ≠ b; omega) _) 0 _) 1 _) 2 _) 3 _) 4 _) 5 _) 6 _) 7 _) Try.underlying33 rfl (by simpa using lineSize)).trans (by simp)) rfl ⟨?_, ?_, ?_⟩
      · rw [HR.out]
      · rw [HR.out]; exact (((((((((Sd.out.far (p := ⟨b, 3, none⟩) hBb _).far (p := ⟨w.heap.size, 0, none⟩) hBw _).far (p := ⟨w.heap.size, 1, none⟩) hBw _).far (p := ⟨w.heap.size, 2, none⟩) hBw _).far (p := ⟨w.heap.size, 3, none⟩) hBw _).far (p := ⟨w.heap.size, 4, none⟩) hBw _).far (p := ⟨w.heap.size, 5, none⟩) hBw _).far (p := ⟨w.heap.size, 6, none⟩) hBw _).far (p := ⟨w.heap.size, 7, none⟩) hBw _)
      · exact (((((((((Nd.out.far (p := ⟨b, 3, none⟩) (by show w.heap.size ≤ b; omega) _).far (p := ⟨w.heap.size, 0, none⟩) (Nat.le_refl _) _).far (p := ⟨w.heap.size, 1, none⟩) (Nat.le_refl _) _).far (p := ⟨w.heap.size, 2, none⟩) (Nat.le_refl _) _).far (p := ⟨w.heap.size, 3, none⟩) (Nat.le_refl _) _).far (p := ⟨w.heap.size, 4, none⟩) (Nat.le_refl _) _).far (p := ⟨w.heap.size, 5, none⟩) (Nat.le_refl _) _).far (p := ⟨w.heap.size, 6, none⟩) (Nat.le_refl _) _).far (p := ⟨w.heap.size, 7, none⟩) (Nat.le_refl _) _)
end Go.Proofs.Ytplkgcoeeohbnaa.T
