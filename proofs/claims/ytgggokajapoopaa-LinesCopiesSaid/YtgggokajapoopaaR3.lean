/- The document's lines, walked: Put. -/
import Derived.Test.YtgggokajapoopaaR2
import Derived.Deep.RegionHeld3
namespace Go
open Go.RowKit
/-- The document's cache: sets, ways, and lines in the order in which they came. -/
structure Rf where
  sets : Int
  ways : Int
  L : List Ln
def Rf.of (r : Rf) (s : Int) : List Ln := r.L.filter fun l => l.num % r.sets == s
def Rf.put (r : Rf) (l : Ln) : Rf × Int :=
  if l.st < 1 ∨ 3 < l.st then (r, 2)
  else match r.L.findIdx? (·.num == l.num) with
    | some i => ({ r with L := r.L.set i l }, 0)
    | none => if ((r.of (l.num % r.sets)).length : Int) ≥ r.ways then (r, 200) else ({ r with L := r.L ++ [l] }, 0)
/-- The document's cache, as a value; o: the block of its list. -/
def RfAt (w : World) (v : Value) (r : Rf) (o : Option Nat) : Prop := ∃ vs, v = .agg #[.int .i64 r.sets, .int .i64 r.ways, vs] ∧ SetAt w vs r.L o
def RfPost (w : World) (o : Option Nat) (r : Rf) (n : Int) (e : Ending) (w' : World) : Prop :=
  ∃ v' o', e = .returned (.tuple #[v', .int .i64 n]) ∧ RfAt w' v' r o' ∧ Ext w w' ∧ (o' = o ∨ ∀ g, o' = some g → w.heap.size ≤ g)
end Go
namespace Go.Proofs
open Go.RowKit
theorem run_loadVar28 (W : World) (b : Nat) (x y z : Value) (h0 : W.cell? ⟨b, 0, none⟩ = some x) (h1 : W.cell? ⟨b, 1, none⟩ = some y) (h2 : W.cell? ⟨b, 2, none⟩ = some z) : (loadVar 28 ⟨b, 0, none⟩).run Try.prog W = .ok (.agg #[x, y, z]) W := by
  simp [go_sem, loadVar, Try.isAgg28, Try.sizeOf28, h0, h1, h2, loadCells]
theorem cells_1 {w : World} {b : Nat} {cs : Array Value} {n : Nat} (h : w.agg? ⟨b, 0, none⟩ n = some cs) {j : Nat} (hj : j < n) : w.cell? ⟨b, j, none⟩ = cs[j]? := by
  rw [← World.agg?_cell h hj]
  congr 1
  simp [Addr.add]
set_option maxRecDepth 100000 in
set_option maxHeartbeats 400000 in
theorem rput_arg (s ways : Int) (L : List Ln) (a : Option Addr) (cap : Nat) (l : Ln) (w : World) (hst : l.st < 1 ∨ 3 < l.st) :
    Calls Try.prog 33 #[.agg #[.int .i64 s, .int .i64 ways, .slice a L.length cap], .agg l.cells] w fun e w' => e = .returned (.tuple #[.agg #[.int .i64 s, .int .i64 ways, .slice a L.length cap], .int .i64 2]) ∧ Ext w w' := by
  by_cases h1 : l.st < 1
  all_goals
    go_enter Try.func33, Try.ntmps33
    go_wp2_with fail
    refine bodyPost_ret (resCT rfl _ _ ⟨w.heap.size + 1 + 1, 0, none⟩ _ rfl (run_loadVar_agg 28 3 Try.isAgg28 Try.sizeOf28 _ _ _ (World.agg?_alloc_at _ _ _ _ _ (by simp) rfl))) rfl ⟨rfl, ?_⟩
    exact (((Ext.refl w).alloc _).alloc _).alloc _
/-- An own slice that was made behind w, of one element at least: its block. -/
theorem SlAt.block {w1 W w' : World} {v' : Value} {L : List Ln} {o' : Option Nat} (k1 : SetAt w' v' L o') (k2 : W.grownBy w' (some w1.heap.size)) (k3 : o' = some w1.heap.size ∨ ∃ g, o' = some g ∧ W.heap.size ≤ g) (hE : Ext w1 W) {i : Nat} (hi : i < L.length) :
    Ext w1 w' ∧ ∃ g cap cur x, o' = some g ∧ v' = .slice (some ⟨g, 0, none⟩) L.length cap ∧ w'.heap[g]? = some (.cells cur 39 (0, 0)) ∧ L.length ≤ cap ∧ cap ≤ maxLen ∧ cur.size = cap * 18 ∧ cur.toList.take (L.length * 18) = flat Ln.cells L ∧ w1.heap.size ≤ g ∧ g < w'.heap.size ∧ w'.agg? ⟨g, i * 18, none⟩ 18 = some (Ln.cells x) ∧ w'.loose g = true := by
  refine ⟨Ext.of_grown hE k2 (fun g hg => by cases hg; omega), ?_⟩
  rcases k1 with ⟨rfl, _⟩ | ⟨g, cap, cur, ho, hv, hg, h1, h2, h3, h4⟩
  · simp at hi
  · have hr := Row_of_block Ln.okCells hg h1 h3 h4
    obtain ⟨b', off', hb', hag⟩ := hr i L[i] (by simp [hi])
    cases hb'
    rw [Nat.zero_add] at hag
    refine ⟨g, cap, cur, L[i], ho, hv, hg, h1, h2, h3, h4, ?_, (Array.getElem?_eq_some_iff.1 hg).1, hag, by simp [World.loose, hg]⟩
    rcases k3 with h | ⟨g', h, h'⟩
    · rw [ho] at h; cases h; omega
    · rw [ho] at h; cases h; exact Nat.le_trans hE.size h'
theorem emptySet (w1 : World) : SetAt (w1.alloc (.cells #[] 39)) (.slice (some ⟨w1.heap.size, 0, none⟩) 0 0) [] (some w1.heap.size) :=
  .inr ⟨_, 0, #[], rfl, rfl, heap_alloc_new _ _, Nat.le_refl _, Nat.zero_le _, rfl, rfl⟩
/-- The three boxes of Put: the document's cache, the line, the result. -/
structure Boxes (W : World) (n : Nat) (s ways : Int) (vs : Value) (l : Ln) : Prop where
  a0 : W.cell? ⟨n, 0, none⟩ = some (.int .i64 s)
  a1 : W.cell? ⟨n, 1, none⟩ = some (.int .i64 ways)
  a2 : W.cell? ⟨n, 2, none⟩ = some vs
  af : W.frozen? ⟨n, 2, none⟩ = false
  b0 : W.cell? ⟨n + 1, 0, none⟩ = some (.int .u32 l.num)
  bs : W.agg? ⟨n + 1, 0, none⟩ 18 = some l.cells
  c0 : W.cell? ⟨n + 1 + 1, 0, none⟩ = some (.int .i64 0)
  c1 : W.cell? ⟨n + 1 + 1, 1, none⟩ = some (.int .i64 0)
  c2 : W.cell? ⟨n + 1 + 1, 2, none⟩ = some (.slice none 0 0)
  f0 : W.frozen? ⟨n + 1 + 1, 0, none⟩ = false
  f1 : W.frozen? ⟨n + 1 + 1, 1, none⟩ = false
  f2 : W.frozen? ⟨n + 1 + 1, 2, none⟩ = false
  cs : W.agg? ⟨n + 1 + 1, 0, none⟩ 3 = some #[.int .i64 0, .int .i64 0, .slice none 0 0]
  cl : W.loose (n + 1 + 1) = true
  lt : n + 1 + 1 < W.heap.size
theorem Boxes.ext {W W' : World} {n : Nat} {s ways : Int} {vs : Value} {l : Ln} (h : Boxes W n s ways vs l) (hE : Ext W W') : Boxes W' n s ways vs l := by
  have h1 := h.lt
  obtain ⟨r1, r2, r3, r5, r4⟩ := hE.rules
  exact ⟨(r1 _ _ (by omega)).trans h.a0, (r1 _ _ (by omega)).trans h.a1, (r1 _ _ (by omega)).trans h.a2, (r2 _ _ (by omega)).trans h.af, (r1 _ _ (by omega)).trans h.b0, (r3 _ _ _ (by omega)).trans h.bs,
    (r1 _ _ (by omega)).trans h.c0, (r1 _ _ (by omega)).trans h.c1, (r1 _ _ (by omega)).trans h.c2, (r2 _ _ (by omega)).trans h.f0, (r2 _ _ (by omega)).trans h.f1, (r2 _ _ (by omega)).trans h.f2, (r3 _ _ _ (by omega)).trans h.cs, (r5 _ (by omega)).trans h.cl, by omega⟩
theorem Boxes.start (w : World) (s ways : Int) (vs : Value) (l : Ln) : Boxes (((w.alloc (.cells #[.int .i64 s, .int .i64 ways, vs] 28)).alloc (.cells l.cells 39)).alloc (.cells #[.int .i64 0, .int .i64 0, .slice none 0 0] 28)) w.heap.size s ways vs l := by
  constructor <;> simp [go_sem]
set_option maxRecDepth 100000 in
set_option maxHeartbeats 400000 in
theorem rput_there (s ways : Int) (L : List Ln) (a : Option Addr) (cap : Nat) (l : Ln) (w : World) (hs1 : 1 ≤ l.st) (hs3 : l.st ≤ 3) (hL : Row 18 Ln.cells w a L) (hlen : L.length ≤ 1000) (i : Nat) (HI : Hid (idxOf l.num L = (i : Int))) (hil : i < L.length) :
    Calls Try.prog 33 #[.agg #[.int .i64 s, .int .i64 ways, .slice a L.length cap], .agg l.cells] w (RfPost w none ⟨s, ways, L.set i l⟩ 0) := by
  obtain ⟨i0, hi, hz0, hz1, hz2⟩ := info_parts Try.info39
  have hr' : ∀ w1, Ext w w1 → Row 18 Ln.cells w1 a L := fun w1 h => hL.ext h
  have HR := Lib.hid hr'
  clear hr' hL
  go_enter Try.func33, Try.ntmps33
  go_wp2_with fail
  refine (rfind_any s ways L a cap l.num _ (HR.out _ ((((Ext.refl w).alloc _).alloc _).alloc _)) hlen).mono ?_
  rintro e w1 ⟨rfl, hE⟩
  rw [HI.out]
  have hd : decide ((i : Int) < 0) = false := by simp
  have hd2 : ((0 : Int) ≤ (i : Int)) = True := by simp
  have hX := (Boxes.start w s ways (.slice a L.length cap) l).ext hE
  have HX := Lib.hid hX
  obtain ⟨xa0, xa1, xa2, xaf, xb0, xbs, xc0, xc1, xc2, xf0, xf1, xf2, xcs, xcl, xlt⟩ := hX
  have hE0 : Ext w w1 := ((((Ext.refl w).alloc _).alloc _).alloc _).trans hE
  clear hE
  go_wp2_with fail
  have hlt1 : w.heap.size + 1 < w1.heap.size := by omega
  have hlt0 : w.heap.size < w1.heap.size := by omega
  have hilt : (i : Int) < (L.length : Int) := by omega
  go_region
  have HE := Lib.hid ((hE0.drew).alloc (.cells #[] 39))
  go_wp2_with (at_builtin; refine wpList_append_sl rfl (.tmp 36) (.tmp 38) 26 rfl i0 _ Try.underlying26 hi hz0 hz1 (by rfl) (by decide) (by rw [hz2]; decide) Ln.okCells _ [] _ (emptySet _) _ _ L (HR.out _ HE.out) rfl rfl (by simp; omega) ?_; intro v' o' w' k1 k2 k3; obtain ⟨hE3, g, cap', cur, x, rfl, rfl, q1, q2, q3, q4, q5, q6, q7, q8, q9⟩ := SlAt.block (w1 := w1) k1 k2 k3 ((Ext.refl w1).drew.alloc _) hil; clear k1 k2 k3; have Q1 := Lib.hid q1; have Q5 := Lib.hid q5; clear q1 q5; have hX := HX.out.ext hE3; obtain ⟨ya0, ya1, ya2, yaf, yb0, ybs, yc0, yc1, yc2, yf0, yf1, yf2, ycs, ycl, ylt⟩ := hX; have n0 := Nat.ne_of_lt (Nat.lt_of_lt_of_le hlt0 q6); have n1 := Nat.ne_of_lt (Nat.lt_of_lt_of_le hlt1 q6); have n2 := Nat.ne_of_lt (Nat.lt_of_lt_of_le xlt q6); have n0' := n0.symm; have n1' := n1.symm; have n2' := n2.symm)
  refine bodyPost_ret (resCT rfl _ _ ⟨w.heap.size + 1 + 1, 0, none⟩ _ rfl (run_loadVar28 _ _ _ _ _ (by simp [go_sem, *] <;> rfl) (by simp [go_sem, *] <;> rfl) (by simp [go_sem, *] <;> rfl))) rfl ⟨_, some g, rfl, ⟨_, rfl, ?_⟩, ?_, .inr fun g' hg' => ?_⟩
  · refine .inr ⟨g, cap', splice cur (i * 18) l.cells, rfl, by simp, ?_, by simpa using q2, q3, ?_, splice_flat Ln.okCells (by simpa using Q5.out) hil l⟩
    · rw [heap_setCell_other _ _ _ _ n2', heap_setCell_other _ _ _ _ n2', heap_setCell_other _ _ _ _ n2', heap_setCell_other _ _ _ _ n0']
      exact World.putAgg_heap (a := ⟨g, i * 18, none⟩) Q1.out
    · rw [size_splice _ _ _ (by rw [l.cells_size, q4]; simp at q2; omega), q4]
  · have h1 : w.heap.size ≤ w1.heap.size := hE0.size
    exact (((((hE0.trans hE3).putAgg _ _ (Nat.le_trans h1 q6)).setCell _ _ (by simp)).setCell _ _ (by simp only; omega)).setCell _ _ (by simp only; omega)).setCell _ _ (by simp only; omega)
  · cases hg'
    exact Nat.le_trans hE0.size q6
end Go.Proofs
