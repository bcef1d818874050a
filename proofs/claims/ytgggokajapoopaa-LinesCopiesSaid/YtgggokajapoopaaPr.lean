/- A cache and the document's, side by side: what a law's own loop keeps. -/
import Derived.Test.YtgggokajapoopaaLPlays
namespace Go
open Go.RowKit
/-- A cache behind pa, the document's in the box B. -/
structure Pr (w W : World) (pa : Value) (B : Nat) (c : Lns) (r : Rf) (F : Nat → Prop) (o : Option Nat) (vs : Value) : Prop where
  ext : Ext w W
  at_ : LinesAt W pa c F
  box : Box3 W B (.int .i64 r.sets) (.int .i64 r.ways) vs
  set : SetAt W vs r.L o
  fr : ∀ b, F b → w.heap.size ≤ b ∧ b ≠ B
  fo : ∀ g, o = some g → w.heap.size ≤ g ∧ g ≠ B ∧ ¬ F g
  ne : w.heap.size ≤ B
theorem Pr.lt {w W : World} {pa : Value} {B : Nat} {c : Lns} {r : Rf} {F : Nat → Prop} {o : Option Nat} {vs : Value} (h : Pr w W pa B c r F o vs) : B < W.heap.size ∧ (∀ b, F b → b < W.heap.size) ∧ ∀ g, o = some g → g < W.heap.size :=
  ⟨h.box.facts.2.2.2.2.2.2, fun _ hb => h.at_.lt hb, fun _ hg => h.set.lt hg⟩
theorem Pr.keep {w W W' : World} {pa : Value} {B : Nat} {c : Lns} {r : Rf} {F : Nat → Prop} {o : Option Nat} {vs : Value} (h : Pr w W pa B c r F o vs) (hE : Ext W W') : Pr w W' pa B c r F o vs := by
  obtain ⟨h2, -, -⟩ := h.lt
  exact ⟨h.ext.trans hE, h.at_.ext hE, h.box.keep (hE.block _ h2), h.set.ext hE, h.fr, h.fo, h.ne⟩
theorem Pr.ref {w W W' : World} {pa : Value} {B : Nat} {c : Lns} {r r' : Rf} {F : Nat → Prop} {o o' : Option Nat} {vs vs' : Value} (h : Pr w W pa B c r F o vs) (hE : Ext W W') (hv : SetAt W' vs' r'.L o') (ho : o' = o ∨ ∀ g, o' = some g → W.heap.size ≤ g) :
    Pr w (((W'.setCell ⟨B, 0, none⟩ (.int .i64 r'.sets)).setCell ⟨B, 1, none⟩ (.int .i64 r'.ways)).setCell ⟨B, 2, none⟩ vs') pa B c r' F o' vs' := by
  have hk := h.keep hE
  obtain ⟨h2, h3, h4⟩ := h.lt
  have hfo : ∀ g, o' = some g → w.heap.size ≤ g ∧ g ≠ B ∧ ¬ F g := by
    rcases ho with rfl | ho
    · exact h.fo
    · intro g hg
      have h5 := ho g hg
      have h6 := h.ext.size
      exact ⟨by omega, by omega, fun hf => by have := h3 g hf; omega⟩
  exact ⟨hk.ext.set3 _ _ _ h.ne, hk.at_.keep fun b hb => heap_set3 _ _ _ (h.fr b hb).2, hk.box.set _ _ _, hv.keep fun b hb => heap_set3 _ _ _ (hfo b hb).2.1, h.fr, hfo, h.ne⟩
theorem Pr.chg {w W W' : World} {pa : Value} {B : Nat} {c c' : Lns} {r : Rf} {F F' : Nat → Prop} {o : Option Nat} {vs : Value} (h : Pr w W pa B c r F o vs) (hC : Chg F W W') (hS : Sub W F F') (hat : LinesAt W' pa c' F') : Pr w W' pa B c' r F' o vs := by
  obtain ⟨h2, h3, h4⟩ := h.lt
  have h6 := h.ext.size
  refine ⟨h.ext.of_chg hC fun b hb => (h.fr b hb).1, hat, h.box.keep (hC.block _ h2 fun hf => (h.fr _ hf).2 rfl), h.set.keep fun b hb => hC.block _ (h4 b hb) (h.fo b hb).2.2, ?_, ?_, h.ne⟩
  · intro b hb
    rcases hS b hb with hf | hf
    · exact h.fr b hf
    · exact ⟨by omega, by omega⟩
  · intro g hg
    obtain ⟨k1, k2, k4⟩ := h.fo g hg
    refine ⟨k1, k2, fun hf => ?_⟩
    rcases hS g hf with hf | hf
    · exact k4 hf
    · have := h4 g hg; omega
/-- Between two rounds. -/
def PrInv (w : World) (pa : Value) (B : Nat) (n ways : Int) (W : World) : Prop :=
  ∃ c r F o vs, Pr w W pa B c r F o vs ∧ Rel c r ∧ r.sets = n ∧ r.ways = ways
theorem prInv_start (w w1 : World) (pa : Value) (n ways : Nat) (F : Nat → Prop) (hn : 1 ≤ n ∧ n ≤ 64) (hw : 1 ≤ ways ∧ ways ≤ 8) (hE : Ext w w1) (h1 : LinesAt w1 pa ⟨ways, List.replicate n []⟩ F) (hF : ∀ b, F b → w.heap.size ≤ b) :
    PrInv w pa w1.heap.size n ways (w1.alloc (.cells #[.int .i64 n, .int .i64 ways, .slice none 0 0] 28)) := by
  have hs := hE.size
  refine ⟨_, ⟨n, ways, []⟩, F, none, .slice none 0 0, ⟨hE.alloc _, h1.ext ((Ext.refl w1).alloc _), heap_alloc_new _ _, SlAt.nil _ _, fun b hb => ?_, by simp, hs⟩, Rel.new n ways hn hw, rfl, rfl⟩
  have h2 := hF b hb
  have h3 := h1.lt hb
  exact ⟨by omega, by omega⟩
end Go
namespace Go.Proofs
open Go.RowKit
theorem right_is (s ways : Int) (b : Bool) (hb : right s ways = b) (w : World) : Calls Try.prog 24 #[.int .i64 s, .int .i64 ways] w fun e w' => e = .returned (.bool b) ∧ w = w' :=
  (right_any s ways w).mono fun _ _ ⟨h1, h2⟩ => ⟨by rw [h1, hb], h2.symm⟩
theorem num_is (n : Int) (w : World) : Calls Try.prog 34 #[.int .i64 n] w fun e w' => e = .returned (.int .i64 n) ∧ w = w' :=
  (num_any n w).mono fun _ _ ⟨h1, h2⟩ => ⟨h1, h2.symm⟩
end Go.Proofs
namespace Go
open Go.RowKit
theorem Pr.ref1 {w wr w3 : World} {pa : Value} {B : Nat} {c : Lns} {r r' : Rf} {F : Nat → Prop} {o o' : Option Nat} {vs vs' : Value} (h : Pr w wr pa B c r F o vs) (hE : Ext wr.drew w3) (hv : SetAt w3 vs' r'.L o') (ho : o' = o ∨ ∀ g, o' = some g → wr.drew.heap.size ≤ g)
    {n ways : Int} (h1 : r'.sets = n) (h2 : r'.ways = ways) (ob : Obj) : Pr w ((((w3.setCell ⟨B, 0, none⟩ (.int .i64 n)).setCell ⟨B, 1, none⟩ (.int .i64 ways)).setCell ⟨B, 2, none⟩ vs').alloc ob) pa B c r' F o' vs' := by
  subst h1 h2
  exact (h.ref ((Ext.refl wr).drew.trans hE) hv ho).keep ((Ext.refl _).alloc ob)
theorem Pr.ref2 {w wr w3 : World} {pa : Value} {B : Nat} {c : Lns} {r r' : Rf} {F : Nat → Prop} {o o' : Option Nat} {vs vs' : Value} (h : Pr w wr pa B c r F o vs) {ob : Obj} (hE : Ext (wr.alloc ob).drew w3) (hv : SetAt w3 vs' r'.L o') (ho : o' = o ∨ ∀ g, o' = some g → (wr.alloc ob).drew.heap.size ≤ g)
    {n ways : Int} (h1 : r'.sets = n) (h2 : r'.ways = ways) (x y z : Value) : Pr w ((((((w3.setCell ⟨wr.heap.size, 0, none⟩ x).setCell ⟨wr.heap.size, 1, none⟩ y).setCell ⟨wr.heap.size, 2, none⟩ z).setCell ⟨B, 0, none⟩ (.int .i64 n)).setCell ⟨B, 1, none⟩ (.int .i64 ways)).setCell ⟨B, 2, none⟩ vs') pa B c r' F o' vs' := by
  subst h1 h2
  have hs : (wr.alloc ob).drew.heap.size = wr.heap.size + 1 := World.size_alloc wr ob
  refine h.ref ((((Ext.refl wr).alloc ob).drew.trans hE).set3 _ _ _ (Nat.le_refl _)) (hv.keep fun b hb => heap_set3 _ _ _ ?_) (ho.imp_right fun ho g hg => by have := ho g hg; omega)
  rcases ho with rfl | ho
  · have := h.lt.2.2 b hb; omega
  · have := ho b hb; omega
end Go
namespace Go.Proofs
open Go.RowKit
/-- Put, where the document's value has been put already. -/
theorem put_pr {w W : World} {pa : Value} {B : Nat} {c : Lns} {r : Rf} {F : Nat → Prop} {o : Option Nat} {vs : Value} {l : Ln} {n ways : Int} (h : Pr w W pa B c (r.put l).1 F o vs) (hr : Rel c r) (h1 : r.sets = n) (h2 : r.ways = ways) :
    Calls Try.prog 35 #[pa, .agg l.cells] W fun e w' => e = .returned (.int .i64 (r.put l).2) ∧ PrInv w pa B n ways w' := by
  refine (put_any pa c F l W h.at_).mono ?_
  rintro e w6 ⟨rfl, F6, h6, hC6, hS6⟩
  obtain ⟨hd1, hd2⟩ := hr.put l
  exact ⟨by rw [hd2], _, _, F6, o, vs, h.chg hC6 hS6 h6, hd1, by rw [Rf.put_sets, h1], by rw [Rf.put_ways, h2]⟩
end Go.Proofs
