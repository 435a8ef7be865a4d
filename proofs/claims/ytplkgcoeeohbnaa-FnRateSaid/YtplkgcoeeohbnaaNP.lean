/- The draws' source as a state: n, one, pick. -/
import Derived.Test.YtplkgcoeeohbnaaNS
import Derived.Test.YtplkgcoeeohbnaaLT
namespace Go.Proofs.Ytplkgcoeeohbnaa.T
open Go.RowKit
structure SrcS where
  xs : List Int
  at_ : Nat
  mix : Int
  sz : Int
def nF (s : SrcS) (most : Int) : Int × SrcS :=
  if most ≤ 1 then (0, s) else if s.at_ < s.xs.length then (nVal (s.xs.getD s.at_ 0) (nMix s.mix) most, ⟨s.xs, s.at_ + 1, nMix s.mix, s.sz⟩) else (nVal 0 (nMix s.mix) most, ⟨s.xs, s.at_, nMix s.mix, s.sz⟩)
theorem nF_range (s : SrcS) (most : Int) (h : most ≤ 9223372036854775807) : 0 ≤ (nF s most).1 ∧ ((nF s most).1 < most ∨ (nF s most).1 = 0) := by
  unfold nF
  split
  · exact ⟨Int.le_refl _, .inr rfl⟩
  · split
    · exact ⟨(nVal_range _ _ _ (by omega) h).1, .inl (nVal_range _ _ _ (by omega) h).2⟩
    · exact ⟨(nVal_range _ _ _ (by omega) h).1, .inl (nVal_range _ _ _ (by omega) h).2⟩
theorem nF_sz (s : SrcS) (most : Int) : (nF s most).2.sz = s.sz := by
  unfold nF
  split
  · rfl
  · split <;> rfl
theorem nF_xs (s : SrcS) (most : Int) : (nF s most).2.xs = s.xs := by
  unfold nF
  split
  · rfl
  · split <;> rfl
abbrev srcCells (A : Option Addr) (c : Nat) (s : SrcS) : Obj := .cells #[.slice A s.xs.length c, .int .i64 s.at_, .int .u64 s.mix, .int .i64 s.sz] 107 (0, 0)
def Src (w : World) (B g : Nat) (A : Option Addr) (c : Nat) (s : SrcS) : Prop :=
  w.heap[g]? = some (srcCells A c s) ∧ s.xs.length ≤ 9223372036854775807 ∧ g < B ∧ B ≤ w.heap.size ∧ ∀ (j : Nat) x, s.xs[j]? = some x → (0 ≤ x ∧ x ≤ 255) ∧ ∃ ad, A = some ad ∧ ad.block ≠ g ∧ ad.block < B ∧ w.cell? (ad.add j) = some (.int .u8 x)
theorem But.cell {w w1 : World} {g : Nat} (h : But w w1 g) {a : Addr} {v : Value} (hc : w.cell? a = some v) (hne : a.block ≠ g) : w1.cell? a = some v := by
  have hlt := World.block_lt_of_cell? w a hc
  rw [← hc]
  unfold World.cell?
  rw [h.2.2.2.2 _ hlt hne]
theorem But.blk {w w1 : World} {g b : Nat} {o : Obj} (h : But w w1 g) (hb : w.heap[b]? = some o) (hne : b ≠ g) : w1.heap[b]? = some o := (h.2.2.2.2 _ (blk_lt hb) hne).trans hb
theorem add_block' (ad : Addr) (j : Nat) : (ad.add j).block = ad.block := by unfold Addr.add; split <;> rfl
section
variable {w w1 : World} {B g : Nat} {A : Option Addr} {c : Nat} {s s' : SrcS}
theorem Src.but (h : Src w B g A c s) (hb : But w w1 g) (hx : s'.xs = s.xs) (hc : w1.heap[g]? = some (srcCells A c s')) : Src w1 B g A c s' :=
  ⟨hc, by rw [hx]; exact h.2.1, h.2.2.1, Nat.le_trans h.2.2.2.1 hb.2.2.2.1, fun j x hj => by
    rw [hx] at hj
    obtain ⟨h1, ad, h2, h3, h5, h4⟩ := h.2.2.2.2 j x hj
    exact ⟨h1, ad, h2, h3, h5, hb.cell h4 (by rw [add_block']; exact h3)⟩⟩
theorem Src.below (h : Src w B g A c s) (hb : Below w.heap.size w w1) : Src w1 B g A c s :=
  ⟨blk_below h.1 hb, h.2.1, h.2.2.1, Nat.le_trans h.2.2.2.1 hb.size, fun j x hj => by
    obtain ⟨h1, ad, h2, h3, h5, h4⟩ := h.2.2.2.2 j x hj
    exact ⟨h1, ad, h2, h3, h5, bcell1 hb h4⟩⟩
theorem Src.alloc (h : Src w B g A c s) (o : Obj) : Src (w.alloc o) B g A c s := h.below (below_alloc (Below.refl _ _) o)
theorem Src.up {B' : Nat} (h : Src w B g A c s) (hB : B ≤ B') (hw : B' ≤ w.heap.size) : Src w B' g A c s :=
  ⟨h.1, h.2.1, by have := h.2.2.1; omega, hw, fun j x hj => by
    obtain ⟨h1, ad, h2, h3, h5, h4⟩ := h.2.2.2.2 j x hj
    exact ⟨h1, ad, h2, h3, by omega, h4⟩⟩
theorem Src.full (h : Src w B g A c s) : Src w w.heap.size g A c s := h.up h.2.2.2.1 (Nat.le_refl _)
theorem Src.lt (h : Src w B g A c s) : g < w.heap.size := blk_lt h.1
theorem But.trans {w2 : World} (h : But w w1 g) (k : But w1 w2 g) : But w w2 g :=
  ⟨k.1.trans h.1, k.2.1.trans h.2.1, k.2.2.1.trans h.2.2.1, Nat.le_trans h.2.2.2.1 k.2.2.2.1, fun b hb hr => (k.2.2.2.2 b (Nat.lt_of_lt_of_le hb h.2.2.2.1) hr).trans (h.2.2.2.2 b hb hr)⟩
theorem But.of_below (h : Below w.heap.size w w1) (g : Nat) : But w w1 g := ⟨h.os, h.tape, h.output, h.size, fun b hb _ => h.block b hb⟩
theorem But.alloc (h : But w w1 g) (o : Obj) : But w (w1.alloc o) g := h.trans (But.of_below (below_alloc (Below.refl _ _) o) g)
/-- a store into a block that is newer than w -/
theorem But.far (h : But w w1 g) {p : Addr} (hp : w.heap.size ≤ p.block) (u : Value) : But w (w1.setCell p u) g :=
  ⟨h.1, h.2.1, h.2.2.1, by simpa using h.2.2.2.1, fun b hb hr => by
    rw [Below.heap_setCell _ _ _ _ (show b ≠ p.block by omega)]
    exact h.2.2.2.2 b hb hr⟩
theorem Src.far (h : Src w B g A c s) {p : Addr} (hp : B ≤ p.block) (u : Value) : Src (w.setCell p u) B g A c s :=
  ⟨blk_far h.1 (by have := h.2.2.1; omega) u, h.2.1, h.2.2.1, by simpa using h.2.2.2.1, fun j x hj => by
    obtain ⟨h1, ad, h2, h3, h5, h4⟩ := h.2.2.2.2 j x hj
    refine ⟨h1, ad, h2, h3, h5, ?_⟩
    rw [← h4]
    unfold World.cell?
    rw [Below.heap_setCell _ _ _ _ (show (ad.add j).block ≠ p.block by rw [add_block']; omega)]⟩
end
theorem row_blk {w : World} {g : Nat} {t : TypeId} {old cs : Array Value} {fr : Nat × Nat} (h : w.heap[g]? = some (.cells old t fr)) : (w.setRow g cs).heap[g]? = some (.cells cs t fr) := by
  simp [World.setRow, Array.getElem?_modify, h]
theorem row_other {w : World} {g b : Nat} {cs : Array Value} (h : b ≠ g) : (w.setRow g cs).heap[b]? = w.heap[b]? := by
  have h' : ¬ g = b := fun e => h e.symm
  simp [World.setRow, Array.getElem?_modify, h']
theorem But.row {w w1 : World} {g b : Nat} (h : But w w1 g) (hb : w.heap.size ≤ b) (cs : Array Value) : But w (w1.setRow b cs) g :=
  ⟨h.1, h.2.1, h.2.2.1, by simpa [World.setRow] using h.2.2.2.1, fun i hi hr => by
    rw [row_other (show i ≠ b by omega)]
    exact h.2.2.2.2 i hi hr⟩
theorem Src.row {w : World} {B g : Nat} {A : Option Addr} {c : Nat} {s : SrcS} {b : Nat} (h : Src w B g A c s) (hb : B ≤ b) (cs : Array Value) : Src (w.setRow b cs) B g A c s :=
  ⟨by rw [row_other (by have := h.2.2.1; omega)]; exact h.1, h.2.1, h.2.2.1, by simpa [World.setRow] using h.2.2.2.1, fun j x hj => by
    obtain ⟨h1, ad, h2, h3, h5, h4⟩ := h.2.2.2.2 j x hj
    refine ⟨h1, ad, h2, h3, h5, ?_⟩
    rw [← h4]
    unfold World.cell?
    rw [row_other (show (ad.add j).block ≠ b by rw [add_block']; omega)]⟩
theorem n_calls {w : World} {B g : Nat} {A : Option Addr} {c : Nat} {s : SrcS} {most : Int} (h : Src w B g A c s) (hm : most ≤ 9223372036854775807) :
    Calls Try.prog 73 #[.pointer (some ⟨g, 0, none⟩), .int .i64 most] w fun e w' => e = .returned (.int .i64 (nF s most).1) ∧ Src w' B g A c (nF s most).2 ∧ But w w' g := by
  unfold nF
  by_cases h1 : most ≤ 1
  · rw [if_pos h1]
    refine (n_one most _ w h1).mono ?_
    rintro e w' ⟨rfl, rfl⟩
    exact ⟨rfl, h, But.refl _ _⟩
  · rw [if_neg h1]
    by_cases h2 : s.at_ < s.xs.length
    · rw [if_pos h2]
      obtain ⟨⟨hx0, hx1⟩, ad, rfl, _, _, hc⟩ := h.2.2.2.2 s.at_ _ (List.getElem?_eq_getElem h2)
      rw [show s.xs.getD s.at_ 0 = s.xs[s.at_] by simp [List.getD_eq_getElem?_getD, h2]]
      refine (n_hi ad s.xs.length c s.at_ _ s.mix s.sz most g w h.1 h.2.1 (by omega) hm h2 hx0 hx1 hc).mono ?_
      rintro e w' ⟨rfl, hb, hk⟩
      exact ⟨rfl, h.but hk rfl hb, hk⟩
    · rw [if_neg h2]
      refine (n_lo A s.xs.length c s.at_ s.mix s.sz most g w h.1 h.2.1 (by omega) hm (by omega)).mono ?_
      rintro e w' ⟨rfl, hb, hk⟩
      exact ⟨rfl, h.but hk rfl hb, hk⟩
def oneF (s : SrcS) (most : Int) : Bool × SrcS := ((nF s most).1 == 0, (nF s most).2)
theorem one_calls {w : World} {B g : Nat} {A : Option Addr} {c : Nat} {s : SrcS} {most : Int} (h : Src w B g A c s) (hm : most ≤ 9223372036854775807) :
    Calls Try.prog 72 #[.pointer (some ⟨g, 0, none⟩), .int .i64 most] w fun e w' => e = .returned (.bool (oneF s most).1) ∧ Src w' B g A c (oneF s most).2 ∧ But w w' g := by
  have HS := Lib.hid h; clear h
  unfold oneF
  obtain ⟨r1, r2, hr⟩ : ∃ a b, nF s most = (a, b) := ⟨_, _, rfl⟩
  rw [hr]
  have HR := Lib.hid hr; clear hr
  go_enter Try.func72, Try.ntmps72
  go_wp2_with fail
  refine (n_calls HS.out hm).mono ?_
  rw [HR.out]
  rintro e w1 ⟨rfl, h1, h2⟩
  have H1 := Lib.hid h1; have H2 := Lib.hid h2; clear h1 h2
  go_wp2
  go_ret
  exact ⟨rfl, H1.out, H2.out⟩
def pickF (s : SrcS) (l : List ByteArray) : ByteArray × SrcS := (l.getD (nF s l.length).1.toNat ByteArray.empty, (nF s l.length).2)
theorem pickF_mem (s : SrcS) (l : List ByteArray) (h0 : 0 < l.length) (h : l.length ≤ 9223372036854775807) : (pickF s l).1 ∈ l := by
  unfold pickF
  obtain ⟨h1, h2⟩ := nF_range s l.length (by omega)
  have : (nF s l.length).1.toNat < l.length := by omega
  simp [List.getD_eq_getElem?_getD, this]
theorem pickF_sz (s : SrcS) (l : List ByteArray) : (pickF s l).2.sz = s.sz := nF_sz _ _
theorem pickF_xs (s : SrcS) (l : List ByteArray) : (pickF s l).2.xs = s.xs := nF_xs _ _
theorem oneF_xs (s : SrcS) (m : Int) : (oneF s m).2.xs = s.xs := nF_xs _ _
theorem oneF_sz (s : SrcS) (m : Int) : (oneF s m).2.sz = s.sz := nF_sz _ _
set_option maxHeartbeats 1000000 in
theorem pick_calls {w : World} {B g b T : Nat} {A : Option Addr} {c : Nat} {s : SrcS} {l : List ByteArray} (h : Src w B g A c s) (hb : w.heap[b]? = some (.cells (l.map Value.string).toArray T (0, 0))) (hne : b ≠ g) (h0 : 0 < l.length) (hl : l.length ≤ 9223372036854775807) :
    Calls Try.prog 62 #[.pointer (some ⟨g, 0, none⟩), .slice (some ⟨b, 0, none⟩) l.length l.length] w fun e w' => e = .returned (.string (pickF s l).1) ∧ Src w' B g A c (pickF s l).2 ∧ But w w' g := by
  have HS := Lib.hid h; clear h
  have HB := Lib.hid hb; clear hb
  obtain ⟨hr1, hr2⟩ := nF_range s l.length (by omega)
  unfold pickF
  obtain ⟨r1, r2, hr⟩ : ∃ a b, nF s l.length = (a, b) := ⟨_, _, rfl⟩
  rw [hr] at hr1 hr2 ⊢
  have HR := Lib.hid hr; clear hr
  simp only at hr1 hr2 ⊢
  obtain ⟨k, rfl⟩ : ∃ k : Nat, r1 = k := ⟨r1.toNat, by omega⟩
  have hk : k < l.length := by omega
  clear hr1 hr2
  go_enter Try.func62, Try.ntmps62
  go_wp2_with fail
  refine (n_calls HS.out (by omega)).mono ?_
  rw [HR.out]
  rintro e w1 ⟨rfl, h1, h2⟩
  have H1 := Lib.hid h1; clear h1
  have H2 := Lib.hid h2; clear h2
  have hc : w1.cell? ⟨b, k, none⟩ = some (.string l[k]) := by
    have := blk_cell (H2.out.blk HB.out hne) k
    rw [this]
    simp [hk]
  have HE := Lib.hid (show l.getD ((k : Nat) : Int).toNat ByteArray.empty = l[k] by simp [List.getD_eq_getElem?_getD, hk])
  go_wp2
  go_ret
  exact ⟨ret_str HE.out.symm, H1.out, H2.out⟩
end Go.Proofs.Ytplkgcoeeohbnaa.T
