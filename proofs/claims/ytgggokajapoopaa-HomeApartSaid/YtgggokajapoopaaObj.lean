/- How a cache of lines lies in memory. -/
import Derived.Test.YtgggokajapoopaaSl
namespace Go
open Go.RowKit
/-- A slice of lines. -/
abbrev SetAt (w : World) (v : Value) (L : List Ln) (o : Option Nat) : Prop := SlAt 39 18 Ln.cells w v L o
/-- The plain cache of lines: how many ways, and the sets. -/
structure Lns where
  ways : Nat
  sets : List (List Ln)
structure Lns.Ok (c : Lns) : Prop where
  s1 : 1 ≤ c.sets.length
  s64 : c.sets.length ≤ 64
  w1 : 1 ≤ c.ways
  w8 : c.ways ≤ 8
  full : ∀ L ∈ c.sets, L.length ≤ c.ways
structure LinesBody (w : World) (B S : Nat) (vs : Array Value) (os : Nat → Option Nat) (c : Lns) : Prop where
  ok : c.Ok
  hB : w.heap[B]? = some (.cells #[.slice (some ⟨S, 0, none⟩) c.sets.length c.sets.length, .int .i64 c.ways] 172 (0, 0))
  hS : w.heap[S]? = some (.cells vs 26 (0, 0))
  size : vs.size = c.sets.length
  sets : ∀ i L, c.sets[i]? = some L → ∃ v, vs[i]? = some v ∧ SetAt w v L (os i)
  bs : B ≠ S
  apart : ∀ i g, os i = some g → g ≠ B ∧ g ≠ S ∧ i < c.sets.length
  inj : ∀ i j g, os i = some g → os j = some g → i = j
/-- A cache of lines lies behind p; F: the blocks that are its own. -/
def LinesAt (w : World) (p : Value) (c : Lns) (F : Nat → Prop) : Prop :=
  ∃ B S vs os, p = .pointer (some ⟨B, 0, none⟩) ∧ LinesBody w B S vs os c ∧ ∀ b, F b ↔ (b = B ∨ b = S ∨ ∃ i, os i = some b)
theorem LinesBody.keep {w w' : World} {B S : Nat} {vs : Array Value} {os : Nat → Option Nat} {c : Lns} (h : LinesBody w B S vs os c) (hk : ∀ b, (b = B ∨ b = S ∨ ∃ i, os i = some b) → w'.heap[b]? = w.heap[b]?) : LinesBody w' B S vs os c where
  ok := h.ok
  hB := by rw [hk B (.inl rfl)]; exact h.hB
  hS := by rw [hk S (.inr (.inl rfl))]; exact h.hS
  size := h.size
  sets := fun i L hi => let ⟨v, hv, hs⟩ := h.sets i L hi; ⟨v, hv, hs.keep fun b hb => hk b (.inr (.inr ⟨i, hb⟩))⟩
  bs := h.bs
  apart := h.apart
  inj := h.inj
theorem LinesAt.keep {w w' : World} {p : Value} {c : Lns} {F : Nat → Prop} (h : LinesAt w p c F) (hk : ∀ b, F b → w'.heap[b]? = w.heap[b]?) : LinesAt w' p c F := by
  obtain ⟨B, S, vs, os, hp, hb, hF⟩ := h
  exact ⟨B, S, vs, os, hp, hb.keep fun b hb => hk b ((hF b).2 hb), hF⟩
theorem LinesAt.lt {w : World} {p : Value} {c : Lns} {F : Nat → Prop} (h : LinesAt w p c F) {b : Nat} (hb : F b) : b < w.heap.size := by
  obtain ⟨B, S, vs, os, hp, h, hF⟩ := h
  rcases (hF b).1 hb with rfl | rfl | ⟨i, hi⟩
  · exact (Array.getElem?_eq_some_iff.1 h.hB).1
  · exact (Array.getElem?_eq_some_iff.1 h.hS).1
  · have hin := (h.apart i b hi).2.2
    obtain ⟨v, _, hs⟩ := h.sets i _ (List.getElem?_eq_getElem hin)
    exact hs.lt hi
theorem LinesAt.ok {w : World} {p : Value} {c : Lns} {F : Nat → Prop} (h : LinesAt w p c F) : c.Ok := by
  obtain ⟨B, S, vs, os, hp, h, hF⟩ := h; exact h.ok
/-- Only blocks of F, and new ones, have turned. -/
structure Chg (F : Nat → Prop) (w w' : World) : Prop where
  os : w'.os = w.os
  tape : w'.tape = w.tape
  output : w'.output = w.output
  size : w.heap.size ≤ w'.heap.size
  block : ∀ k, k < w.heap.size → ¬ F k → w'.heap[k]? = w.heap[k]?
/-- The new own blocks are old own ones, or new. -/
def Sub (w : World) (F F' : Nat → Prop) : Prop := ∀ b, F' b → F b ∨ w.heap.size ≤ b
theorem Ext.chg {w w' : World} (h : Ext w w') (F : Nat → Prop) : Chg F w w' := ⟨h.os, h.tape, h.output, h.size, fun k hk _ => h.block k hk⟩
theorem Chg.refl (F : Nat → Prop) (w : World) : Chg F w w := ⟨rfl, rfl, rfl, Nat.le_refl _, fun _ _ _ => rfl⟩
theorem Chg.trans {F F' : Nat → Prop} {a b c : World} (h : Chg F a b) (k : Chg F' b c) (hF : ∀ x, x < a.heap.size → F' x → F x) : Chg F a c :=
  ⟨k.os.trans h.os, k.tape.trans h.tape, k.output.trans h.output, Nat.le_trans h.size k.size,
    fun x hx hn => (k.block x (Nat.lt_of_lt_of_le hx h.size) fun hf => hn (hF x hx hf)).trans (h.block x hx hn)⟩
theorem Chg.ext {F : Nat → Prop} {a b c : World} (h : Chg F a b) (k : Ext b c) : Chg F a c :=
  ⟨k.os.trans h.os, k.tape.trans h.tape, k.output.trans h.output, Nat.le_trans h.size k.size,
    fun x hx hn => (k.block x (Nat.lt_of_lt_of_le hx h.size)).trans (h.block x hx hn)⟩
theorem Ext.of_chg {F : Nat → Prop} {a b c : World} (h : Ext a b) (k : Chg F b c) (hF : ∀ x, F x → a.heap.size ≤ x) : Ext a c :=
  ⟨k.os.trans h.os, k.tape.trans h.tape, k.output.trans h.output, Nat.le_trans h.size k.size,
    fun x hx => (k.block x (Nat.lt_of_lt_of_le hx h.size) fun hf => by have := hF x hf; omega).trans (h.block x hx)⟩
theorem Chg.rules {F : Nat → Prop} {W w1 : World} (h : Chg F W w1) : (∀ b o, b < W.heap.size → ¬ F b → w1.cell? ⟨b, o, none⟩ = W.cell? ⟨b, o, none⟩) ∧ (∀ b o, b < W.heap.size → ¬ F b → w1.frozen? ⟨b, o, none⟩ = W.frozen? ⟨b, o, none⟩) ∧
    (∀ b o n, b < W.heap.size → ¬ F b → w1.agg? ⟨b, o, none⟩ n = W.agg? ⟨b, o, none⟩ n) ∧ (∀ b, b < W.heap.size → ¬ F b → w1.loose b = W.loose b) ∧ W.heap.size ≤ w1.heap.size :=
  ⟨fun b o hb hf => World.cell?_of_block (w := W) (a := ⟨b, o, none⟩) (h.block b hb hf), fun b o hb hf => World.frozen?_of_block (w := W) (a := ⟨b, o, none⟩) (h.block b hb hf),
    fun b o _ hb hf => World.agg?_of_block (a := ⟨b, o, none⟩) (h.block b hb hf), fun b hb hf => World.loose_of_block (h.block b hb hf), h.size⟩
theorem LinesAt.ext {w w' : World} {p : Value} {c : Lns} {F : Nat → Prop} (h : LinesAt w p c F) (hw : Ext w w') : LinesAt w' p c F := h.keep fun b hb => hw.block b (h.lt hb)
theorem LinesAt.chg {w w' : World} {p : Value} {c : Lns} {F G : Nat → Prop} (h : LinesAt w p c F) (hw : Chg G w w') (hd : ∀ b, F b → ¬ G b) : LinesAt w' p c F := h.keep fun b hb => hw.block b (h.lt hb) (hd b hb)
end Go
namespace Go
open Go.RowKit
def Lns.setNo (c : Lns) (n : Int) : Nat := (n % (c.sets.length : Int)).toNat
def Lns.of (c : Lns) (n : Int) : List Ln := c.sets.getD (c.setNo n) []
def lookup (n : Int) (L : List Ln) : Option Ln := L.find? fun l => l.num == n
def Ln.zero : Ln := ⟨0, 0, List.replicate 16 0, by omega, by simp, by simp⟩
@[go_sem] theorem Ln.zero_cells : #[Value.int .u32 0, .int .i64 0, .int .u8 0, .int .u8 0, .int .u8 0, .int .u8 0, .int .u8 0, .int .u8 0, .int .u8 0, .int .u8 0, .int .u8 0, .int .u8 0, .int .u8 0, .int .u8 0, .int .u8 0, .int .u8 0, .int .u8 0, .int .u8 0] = Ln.zero.cells := rfl
def lnOr (o : Option Ln) : Ln := o.getD Ln.zero
theorem Lns.setNo_lt {c : Lns} (h : c.Ok) (n : Int) : c.setNo n < c.sets.length := by
  have h1 := h.s1
  have := Int.emod_nonneg n (b := (c.sets.length : Int)) (by omega)
  have := Int.emod_lt_of_pos n (b := (c.sets.length : Int)) (by omega)
  unfold Lns.setNo
  omega
theorem Lns.of_eq {c : Lns} (h : c.Ok) (n : Int) : c.sets[c.setNo n]? = some (c.of n) := by
  simp [Lns.of, Lns.setNo_lt h n, List.getD]
theorem Lns.of_len {c : Lns} (h : c.Ok) (n : Int) : (c.of n).length ≤ c.ways := h.full _ (List.mem_of_getElem? (Lns.of_eq h n))
theorem idxOf_cases (n : Int) (L : List Ln) : (∃ i x, idxOf n L = (i : Nat) ∧ L[i]? = some x ∧ x.num = n ∧ i < L.length ∧ lookup n L = some x ∧ (∀ (j : Nat) (y : Ln), j < i → L[j]? = some y → y.num ≠ n)) ∨
    (idxOf n L = -1 ∧ lookup n L = none ∧ ∀ (j : Nat) (y : Ln), L[j]? = some y → y.num ≠ n) := by
  unfold idxOf lookup
  cases h : L.findIdx? (·.num == n) with
  | some i =>
    left
    obtain ⟨hi, h1, h2⟩ := List.findIdx?_eq_some_iff_getElem.1 h
    refine ⟨i, L[i], rfl, by simp, by simpa using h1, hi, ?_, fun j y hj hy => ?_⟩
    · rw [List.find?_eq_some_iff_getElem]
      exact ⟨by simpa using h1, i, hi, rfl, fun j hj => by simpa using h2 j hj⟩
    · have := h2 j hj
      obtain ⟨hj', rfl⟩ := List.getElem?_eq_some_iff.1 hy
      simpa using this
  | none =>
    right
    rw [List.findIdx?_eq_none_iff] at h
    refine ⟨rfl, ?_, fun j y hy => ?_⟩
    · rw [List.find?_eq_none]
      intro x hx; simpa using h x hx
    · simpa using h y (List.mem_of_getElem? hy)
theorem LinesBody.set {w : World} {B S : Nat} {vs : Array Value} {os : Nat → Option Nat} {c : Lns} (h : LinesBody w B S vs os c) (n : Int) :
    ∃ v, vs[c.setNo n]? = some v ∧ SetAt w v (c.of n) (os (c.setNo n)) ∧ w.cell? ⟨S, c.setNo n, none⟩ = some v := by
  obtain ⟨v, hv, hs⟩ := h.sets _ _ (Lns.of_eq h.ok n)
  exact ⟨v, hv, hs, by rw [cell_of_row w S _ vs 26 (0, 0) h.hS]; exact hv⟩
theorem LinesBody.lt {w : World} {B S : Nat} {vs : Array Value} {os : Nat → Option Nat} {c : Lns} (h : LinesBody w B S vs os c) {b : Nat} (hb : b = B ∨ b = S ∨ ∃ i, os i = some b) : b < w.heap.size :=
  LinesAt.lt (F := fun b => b = B ∨ b = S ∨ ∃ i, os i = some b) ⟨B, S, vs, os, rfl, h, fun _ => Iff.rfl⟩ hb
theorem LinesBody.ext {w w' : World} {B S : Nat} {vs : Array Value} {os : Nat → Option Nat} {c : Lns} (h : LinesBody w B S vs os c) (hw : Ext w w') : LinesBody w' B S vs os c :=
  h.keep fun b hb => hw.block b (h.lt hb)
end Go
