/- Texts in one: Hh, Hj. -/
import Derived.Test.YtgggokajapoopaaHm
import Derived.Test.YtgggokajapoopaaImb
import Derived.Test.YtgggokajapoopaaMq
import Derived.Lib.SliceRun
/- The home as it lies; none, Lines, New, Clone, copied, of. -/
namespace Go
open Go.RowKit Go.Proofs
/-- A home: its memory, and the entries that there are. -/
structure Hom where
  mem : List B16
  es : Int → Option En
def Hom.get (H : Hom) (x : Int) : En := (H.es x).getD En.zero
/-- An entry that lies behind a pointer, in blocks of F. -/
def EntAt (w : World) (F : Nat → Prop) (v : Value) (e : En) : Prop :=
  ∃ b q o, v = .pointer (some ⟨b, 0, none⟩) ∧ w.heap[b]? = some (.cells (e.cells q) 84 (0, 0)) ∧ QAt w q e.q o ∧ F b ∧ ∀ g, o = some g → F g
theorem EntAt.keep {w w' : World} {F : Nat → Prop} {v : Value} {e : En} (h : EntAt w F v e) (hk : ∀ b, b < w.heap.size → F b → w'.heap[b]? = w.heap[b]?) : EntAt w' F v e := by
  obtain ⟨b, q, o, hv, hb, hq, h1, h2⟩ := h
  exact ⟨b, q, o, hv, (hk b (Array.getElem?_eq_some_iff.1 hb).1 h1).trans hb, hq.keep fun g hg => hk g (hq.lt hg) (h2 g hg), h1, h2⟩
theorem EntAt.wide {w : World} {F G : Nat → Prop} {v : Value} {e : En} (h : EntAt w F v e) (hG : ∀ b, F b → G b) : EntAt w G v e := by
  obtain ⟨b, q, o, hv, hb, hq, h1, h2⟩ := h
  exact ⟨b, q, o, hv, hb, hq, hG _ h1, fun g hg => hG _ (h2 g hg)⟩
/-- A home behind p, its entries in blocks of F. -/
structure HomAt (w : World) (p : Value) (H : Hom) (hb ib bb mb : Nat) (F : Nat → Prop) : Prop where
  p : p = .pointer (some ⟨hb, 0, none⟩)
  hH : w.heap[hb]? = some (.cells #[.pointer (some ⟨ib, 0, none⟩), .map (some mb)] 106 (0, 0))
  img : ImgAt w (.pointer (some ⟨ib, 0, none⟩)) H.mem ib bb
  im : w.imap mb .u32
  ent : ∀ x, (H.es x = none ∧ w.mapGet mb .u32 x = none) ∨ ∃ e v, H.es x = some e ∧ w.mapGet mb .u32 x = some v ∧ EntAt w F v e
  ne : hb ≠ ib ∧ hb ≠ bb ∧ hb ≠ mb ∧ ib ≠ mb ∧ bb ≠ mb
  fn : ¬ F hb ∧ ¬ F ib ∧ ¬ F bb ∧ ¬ F mb
  fl : ∀ b, F b → b < w.heap.size
  bm : w.imapB mb .u32
section
variable {w w' : World} {p : Value} {H : Hom} {hb ib bb mb : Nat} {F : Nat → Prop}
theorem HomAt.lt (h : HomAt w p H hb ib bb mb F) : hb < w.heap.size ∧ ib < w.heap.size ∧ bb < w.heap.size ∧ mb < w.heap.size :=
  ⟨(Array.getElem?_eq_some_iff.1 h.hH).1, h.img.lt.1, h.img.lt.2, h.im.lt⟩
theorem HomAt.keep (h : HomAt w p H hb ib bb mb F) (hk : ∀ b, b < w.heap.size → (b = hb ∨ b = ib ∨ b = bb ∨ b = mb ∨ F b) → w'.heap[b]? = w.heap[b]?) (hs : w.heap.size ≤ w'.heap.size) : HomAt w' p H hb ib bb mb F := by
  obtain ⟨l1, l2, l3, l4⟩ := h.lt
  have k4 := hk _ l4 (.inr (.inr (.inr (.inl rfl))))
  refine ⟨h.p, (hk _ l1 (.inl rfl)).trans h.hH, h.img.keep fun b hb => ?_, (World.imap_of_block k4).2 h.im, fun x => ?_, h.ne, h.fn, fun b hb => Nat.lt_of_lt_of_le (h.fl b hb) hs, World.imapB_of_block k4 h.bm⟩
  · rcases hb with rfl | rfl
    · exact hk b l2 (.inr (.inl rfl))
    · exact hk b l3 (.inr (.inr (.inl rfl)))
  · rw [World.mapGet_of_block k4]
    rcases h.ent x with h1 | ⟨e, v, h1, h2, h3⟩
    · exact .inl h1
    · exact .inr ⟨e, v, h1, h2, h3.keep fun b hb hf => hk b hb (.inr (.inr (.inr (.inr hf))))⟩
theorem HomAt.chg {G : Nat → Prop} (h : HomAt w p H hb ib bb mb F) (hc : Chg G w w') (hd : ∀ b, (b = hb ∨ b = ib ∨ b = bb ∨ b = mb ∨ F b) → ¬ G b) : HomAt w' p H hb ib bb mb F :=
  h.keep (fun b hl hb => hc.block b hl (hd b hb)) hc.size
theorem HomAt.ext (h : HomAt w p H hb ib bb mb F) (hE : Ext w w') : HomAt w' p H hb ib bb mb F := h.keep (fun b hb _ => hE.block b hb) hE.size
theorem HomAt.facts (h : HomAt w p H hb ib bb mb F) : w.cell? ⟨hb, 0, none⟩ = some (.pointer (some ⟨ib, 0, none⟩)) ∧ w.cell? ⟨hb, 1, none⟩ = some (.map (some mb)) := by
  refine ⟨?_, ?_⟩
  · rw [cell_of_row w hb 0 _ 106 (0, 0) h.hH]; rfl
  · rw [cell_of_row w hb 1 _ 106 (0, 0) h.hH]; rfl
end
end Go
namespace Go.Proofs
open Go.RowKit
variable {F : Nat → Prop}
@[go_sem] theorem Try.eql_nil70 (w : World) (a : Option Addr) (n c : Nat) : (binOp .eql 70 (.slice a n c) (.slice none 0 0)).run Try.prog w = .ok (.bool a.isNone) w := by
  exact Lib.run_eql_slice_nil w 70 79 a n c 0 0 Try.underlying70
/-- A new slice with the same. -/
def MsClone (w : World) (L : List Ms) (e : Ending) (w' : World) : Prop :=
  ∃ v o, e = .returned v ∧ Ext w w' ∧ SlAt 79 20 Ms.cells w' v L o ∧ ∀ g, o = some g → w.heap.size ≤ g
set_option maxRecDepth 100000 in
set_option maxHeartbeats 400000 in
theorem mclone_nil (w : World) (cap : Nat) : Calls Try.prog 150 #[.slice none 0 cap] w (MsClone w []) := by
  go_enter Try.func150, Try.ntmps150
  go_wp2_with fail
  go_ret
  exact ⟨_, none, rfl, Ext.refl w, SlAt.nil _ _, by simp⟩
set_option maxRecDepth 100000 in
set_option maxHeartbeats 400000 in
theorem mclone_some (w : World) (a : Addr) (cap : Nat) (L : List Ms) (hr : Row 20 Ms.cells w (some a) L) (hl : L.length ≤ 1000) : Calls Try.prog 150 #[.slice (some a) L.length cap] w (MsClone w L) := by
  obtain ⟨i0, hi, hz0, hz1, hz2⟩ := info_parts Try.info79
  have hr' : ∀ o, Row 20 Ms.cells (w.alloc o) (some a) L := fun o => hr.ext ((Ext.refl w).alloc o)
  have HR := Lib.hid hr'
  clear hr hr'
  go_enter Try.func150, Try.ntmps150
  go_wp2_with (at_builtin; refine wpList_append_sl rfl (.tmp 5) (.tmp 6) 70 rfl i0 _ Try.underlying70 hi hz0 hz1 (by rfl) (by decide) (by rw [hz2]; decide) Ms.okCells _ [] none (SlAt.nil _ _) _ _ L (HR.out _) rfl rfl (by simp; omega) ?_; intro v' o' w' k1 k2 k3)
  all_goals
    go_ret
    exact ⟨_, o', rfl, (((Ext.refl w).alloc _).trans ⟨k2.os, k2.tape, k2.output, k2.size, fun k hk => k2.block k hk (by simp)⟩), k1, fun g hg => by rcases k3 with h | ⟨g', h, h'⟩ <;> rw [hg] at h <;> cases h; exact Nat.le_trans (by simp) h'⟩
theorem mclone_any (w : World) (v : Value) (L : List Ms) (o : Option Nat) (h : QAt w v L o) (hl : L.length ≤ 1000) : Calls Try.prog 150 #[v] w (MsClone w L) := by
  rcases h with ⟨rfl, ho, a, c, rfl⟩ | ⟨g, off, cap, ho, rfl, hr, -⟩
  · cases a with
    | none => exact mclone_nil w c
    | some a => exact mclone_some w a c [] (fun i x hx => by simp at hx) hl
  · exact mclone_some w _ cap L hr hl
set_option maxRecDepth 100000 in
theorem hnone_nil (w : World) : Calls Try.prog 99 #[.pointer none] w fun e w' => e = .returned (.bool true) ∧ w = w' := by
  go_enter Try.func99, Try.ntmps99
  go_wp2_with fail
  go_ret
  exact ⟨rfl, rfl⟩
set_option maxRecDepth 100000 in
theorem hnone_zero (w : World) (b : Nat) (h : w.cell? ⟨b, 0, none⟩ = some (.pointer none)) : Calls Try.prog 99 #[.pointer (some ⟨b, 0, none⟩)] w fun e w' => e = .returned (.bool true) ∧ w = w' := by
  go_enter Try.func99, Try.ntmps99
  go_wp2_with fail
  go_ret
  exact ⟨rfl, rfl⟩
set_option maxRecDepth 100000 in
theorem hnone_any (w : World) (p : Value) (H : Hom) (hb ib bb mb : Nat) (h : HomAt w p H hb ib bb mb F) : Calls Try.prog 99 #[p] w fun e w' => e = .returned (.bool false) ∧ w = w' := by
  obtain ⟨f0, f1⟩ := h.facts
  obtain ⟨rfl, -⟩ := h
  go_enter Try.func99, Try.ntmps99
  go_wp2_with fail
  go_ret
  exact ⟨rfl, rfl⟩
set_option maxRecDepth 100000 in
theorem hlines_nil (w : World) : Calls Try.prog 46 #[.pointer none] w fun e w' => e = .returned (.int .i64 0) ∧ w = w' := by
  go_enter Try.func46, Try.ntmps46
  go_wp2_with (go_at_call 99; refine (hnone_nil _).mono ?_; rintro e w1 ⟨rfl, rfl⟩)
  go_ret
  exact ⟨rfl, rfl⟩
set_option maxRecDepth 100000 in
theorem hlines_any (w : World) (p : Value) (H : Hom) (hb ib bb mb : Nat) (h : HomAt w p H hb ib bb mb F) : Calls Try.prog 46 #[p] w fun e w' => e = .returned (.int .i64 (H.mem.length : Int)) ∧ w = w' := by
  obtain ⟨f0, f1⟩ := h.facts
  obtain ⟨rfl⟩ := h.p
  have HH := Lib.hid h
  have hlen := h.img.len
  have hq : Int.tdiv ((16 * H.mem.length : Nat) : Int) 16 = (H.mem.length : Int) := by
    rw [Int.tdiv_eq_ediv_of_nonneg (by omega)]; omega
  have HQ := Lib.hid hq
  clear h hq
  go_enter Try.func46, Try.ntmps46
  go_wp2_with (first
    | (go_at_call 99; refine (hnone_any _ _ _ _ _ _ _ HH.out).mono ?_; rintro e w1 ⟨rfl, rfl⟩)
    | (go_at_call 100; refine (size_any _ _ _ _ _ HH.out.img).mono ?_; rintro e w1 ⟨rfl, rfl⟩))
  go_ret
  exact ⟨rfl, rfl⟩
@[go_sem ↓] theorem Try.loadVar84 (a : Addr) : loadVar 84 a = loadAgg 84 a := rfl
@[go_sem] theorem Try.loadAgg84 (w : World) (a : Addr) : (loadAgg 84 a).run Try.prog w = aggRes (w.agg? a 11) (loadSlow Try.prog 84 a w) w :=
  run_loadAgg 84 11 Try.isAgg84 Try.sizeOf84 w a
@[go_sem ↓] theorem Try.storeVar84 (a : Addr) (v : Value) : storeVar 84 a v = storeAgg 84 a v := rfl
@[go_sem] theorem Try.storeAgg84 (w : World) (a : Addr) (cs : Array Value) : (storeAgg 84 a (.agg cs)).run Try.prog w = storeRes ((w.agg? a 11).isSome && w.loose a.block && okCells 11 cs) (.ok () (w.putAgg a cs)) (storeSlow Try.prog 84 a (.agg cs) w) :=
  run_storeAgg 84 11 Try.sizeOf84 w a cs
@[go_sem] theorem _root_.Go.En.cells_size (e : En) (v : Value) : (e.cells v).size = 11 := by simp [En.cells]
@[go_sem] theorem _root_.Go.En.okCells (e : En) (a : Option Addr) (n c : Nat) : okCells 11 (e.cells (.slice a n c)) = true := by simp [Go.okCells, En.cells, Value.oneCell']
@[go_sem] theorem _root_.Go.En.cells_10 (e : En) (v : Value) : (e.cells v)[10]? = some v := rfl
@[go_sem] theorem _root_.Go.En.cells_set10 (e : En) (v u : Value) : (e.cells v).setIfInBounds 10 u = e.cells u := rfl
@[go_sem] theorem _root_.Go.En.cells_get10 (e : En) (v : Value) (h : 10 < (e.cells v).size) : (e.cells v)[10] = v := rfl
theorem copied_room {w w3 : World} {e : En} {v : Value} {cs : Array Value} (hE : Ext ((w.alloc (.cells (e.cells v) 84)).alloc (.cells cs 84)) w3) (hcs : cs.size = 11 := by rfl) :
    w3.cell? ⟨w.heap.size, 10, none⟩ = some v ∧ w3.frozen? ⟨w.heap.size, 10, none⟩ = false ∧ (∀ u, (w3.setCell ⟨w.heap.size, 10, none⟩ u).agg? ⟨w.heap.size, 0, none⟩ 11 = some (e.cells u)) ∧
    ((w3.agg? ⟨w.heap.size + 1, 0, none⟩ 11).isSome = true) ∧ (∀ u, (w3.setCell ⟨w.heap.size, 10, none⟩ u).loose (w.heap.size + 1) = true) ∧
    (∀ u, ((w3.setCell ⟨w.heap.size, 10, none⟩ u).putAgg ⟨w.heap.size + 1, 0, none⟩ (e.cells u)).agg? ⟨w.heap.size + 1, 0, none⟩ 11 = some (e.cells u)) := by
  have hA : w3.heap[w.heap.size]? = some (.cells (e.cells v) 84 (0, 0)) := by
    rw [hE.block _ (by simp; omega)]
    rw [Below.heap_alloc _ _ _ (by simp)]
    exact heap_alloc_new w _
  have hB : w3.heap[w.heap.size + 1]? = some (.cells cs 84 (0, 0)) := by
    rw [hE.block _ (by simp)]
    have := heap_alloc_new (w.alloc (.cells (e.cells v) 84)) (.cells cs 84)
    simpa using this
  have hset : ∀ u, (w3.setCell ⟨w.heap.size, 10, none⟩ u).heap[w.heap.size]? = some (.cells (e.cells u) 84 (0, 0)) := fun u => heap_setCell_same w3 w.heap.size 10 _ 84 u hA
  have hB' : ∀ u, (w3.setCell ⟨w.heap.size, 10, none⟩ u).heap[w.heap.size + 1]? = some (.cells cs 84 (0, 0)) := fun u => (heap_setCell_other _ _ _ _ (by simp)).trans hB
  refine ⟨?_, frozen_of_row w3 w.heap.size 10 _ 84 hA, fun u => ?_, ?_, fun u => ?_, fun u => ?_⟩
  · rw [cell_of_row w3 w.heap.size 10 _ 84 (0, 0) hA]; rfl
  · unfold World.agg?
    simp only [hset u]
    rfl
  · unfold World.agg?
    simp only [hB]
    simp [hcs]
  · simp only [World.loose, hB' u]; rfl
  · have := World.putAgg_heap (a := ⟨w.heap.size + 1, 0, none⟩) (cs := e.cells u) (hB' u)
    unfold World.agg?
    simp only [this]
    rw [splice_whole _ _ (by rw [hcs]; rfl)]
    rfl
set_option maxRecDepth 100000 in
set_option maxHeartbeats 400000 in
theorem copied_any (w : World) (e : En) (v : Value) (o : Option Nat) (h : QAt w v e.q o) (hl : e.q.length ≤ 1000) :
    Calls Try.prog 110 #[.agg (e.cells v)] w fun r w' => ∃ v' o', r = .returned (.agg (e.cells v')) ∧ Ext w w' ∧ SlAt 79 20 Ms.cells w' v' e.q o' ∧ ∀ g, o' = some g → w.heap.size ≤ g := by
  have HQ : Hid (∀ W, Ext w W → QAt W v e.q o) := fun W hE => h.keep fun b hb => hE.block b (h.lt hb)
  obtain ⟨a, c, rfl⟩ := h.slice
  clear h
  go_enter Try.func110, Try.ntmps110
  go_wp2_with (go_at_call 150; refine (mclone_any _ _ e.q o (HQ.out _ (((Ext.refl w).alloc _).alloc _)) hl).mono ?_; rintro r w3 ⟨v3, o3, rfl, hE3, hs3, hf3⟩; obtain ⟨a3, c3, rfl, -⟩ := hs3.row Ms.okCells; have HE3 := Lib.hid hE3; have HS3 := Lib.hid hs3; have HF3 := Lib.hid hf3; have q1 := copied_room hE3; obtain ⟨q1, q2, q3, q4, q5, q6⟩ := q1; clear hE3 hs3 hf3; have q3' := q3 (.slice a3 e.q.length c3))
  (try simp only [Exit.inBlock, Exit.then])
  refine bodyPost_ret (resC rfl _ _ ⟨w.heap.size + 1, 0, none⟩ (.agg (e.cells (.slice a3 e.q.length c3))) rfl ?_) rfl ?_
  · have := q6 (.slice a3 e.q.length c3)
    simp [go_sem, this]
  · have hE4 : Ext w w3 := (((Ext.refl w).alloc _).alloc _).trans HE3.out
    have hE5 := (hE4.setCell ⟨w.heap.size, 10, none⟩ (.slice a3 e.q.length c3) (Nat.le_refl _)).putAgg ⟨w.heap.size + 1, 0, none⟩ (e.cells (.slice a3 e.q.length c3)) (by simp)
    refine ⟨_, o3, rfl, hE5, HS3.out.keep fun b hb => ?_, fun g hg => ?_⟩
    · have := HF3.out b hb
      simp at this
      rw [World.putAgg_other _ _ _ (by simp only; omega), heap_setCell_other _ _ _ _ (by simp only; omega)]
    · have := HF3.out g hg
      simp at this
      omega
end Go.Proofs
/- The home, walked: of, New, Memory, Entry. -/
namespace Go.Proofs
open Go.RowKit
variable {F : Nat → Prop}
theorem one_room {w w3 : World} {cs : Array Value} (hE : Ext (w.alloc (.cells cs 84)) w3) (hcs : cs.size = 11 := by rfl) :
    (w3.agg? ⟨w.heap.size, 0, none⟩ 11).isSome = true ∧ w3.loose w.heap.size = true ∧ ∀ ds : Array Value, ds.size = 11 → (w3.putAgg ⟨w.heap.size, 0, none⟩ ds).agg? ⟨w.heap.size, 0, none⟩ 11 = some ds := by
  have hA : w3.heap[w.heap.size]? = some (.cells cs 84 (0, 0)) := (hE.block _ (by simp)).trans (heap_alloc_new w _)
  refine ⟨?_, ?_, fun ds hds => ?_⟩
  · unfold World.agg?
    simp only [hA]
    simp [hcs]
  · simp only [World.loose, hA]; rfl
  · have := World.putAgg_heap (a := ⟨w.heap.size, 0, none⟩) (cs := ds) hA
    unfold World.agg?
    simp only [this]
    rw [splice_whole _ _ (by rw [hcs, hds])]
    simp [hds]
set_option maxRecDepth 100000 in
set_option maxHeartbeats 400000 in
theorem of_none (w : World) (p : Value) (H : Hom) (hb ib bb mb : Nat) (h : HomAt w p H hb ib bb mb F) (x : Int) (hx : H.es x = none) :
    Calls Try.prog 103 #[p, .int .u32 x] w fun r w' => r = .returned (.agg (En.zero.cells (.slice none 0 0))) ∧ Ext w w' := by
  obtain ⟨f0, f1⟩ := h.facts
  obtain ⟨rfl⟩ := h.p
  have him := h.im
  have hg : w.mapGet mb .u32 x = none := by
    rcases h.ent x with h1 | ⟨e, v, h1, -⟩
    · exact h1.2
    · rw [hx] at h1; cases h1
  have l := h.lt
  obtain ⟨l1, l2, l3, l4⟩ := l
  clear h
  go_enter Try.func103, Try.ntmps103
  go_wp2_with fail
  (try simp only [Exit.inBlock, Exit.then])
  refine bodyPost_ret (resC rfl _ _ ⟨w.heap.size, 0, none⟩ (.agg (En.zero.cells (.slice none 0 0))) rfl ?_) rfl ⟨rfl, (Ext.refl w).alloc _⟩
  exact run_loadVar_agg 84 11 Try.isAgg84 Try.sizeOf84 _ _ _ (by simp [go_sem]; rfl)
set_option maxRecDepth 100000 in
set_option maxHeartbeats 400000 in
theorem of_some (w : World) (p : Value) (H : Hom) (hb ib bb mb : Nat) (h : HomAt w p H hb ib bb mb F) (x : Int) (e : En) (hx : H.es x = some e) (hl : e.q.length ≤ 1000) :
    Calls Try.prog 103 #[p, .int .u32 x] w fun r w' => ∃ v' o', r = .returned (.agg (e.cells v')) ∧ Ext w w' ∧ SlAt 79 20 Ms.cells w' v' e.q o' ∧ ∀ g, o' = some g → w.heap.size ≤ g := by
  obtain ⟨f0, f1⟩ := h.facts
  obtain ⟨rfl⟩ := h.p
  have him := h.im
  obtain ⟨b, q, o, hg, hbk, hq⟩ : ∃ b q o, w.mapGet mb .u32 x = some (.pointer (some ⟨b, 0, none⟩)) ∧ w.heap[b]? = some (.cells (e.cells q) 84 (0, 0)) ∧ QAt w q e.q o := by
    rcases h.ent x with h1 | ⟨e', v, h1, h2, b, q, o, rfl, h4, h5, -⟩
    · rw [hx] at h1; cases h1.1
    · rw [hx] at h1; cases h1; exact ⟨b, q, o, h2, h4, h5⟩
  obtain ⟨l1, l2, l3, l4⟩ := h.lt
  have lb : b < w.heap.size := (Array.getElem?_eq_some_iff.1 hbk).1
  have hag : w.agg? ⟨b, 0, none⟩ 11 = some (e.cells q) := by
    unfold World.agg?
    simp only [hbk]
    rfl
  have HQ : Hid (∀ W, Ext w W → QAt W q e.q o) := fun W hE => hq.keep fun b hb => hE.block b (hq.lt hb)
  clear h hbk hq
  go_enter Try.func103, Try.ntmps103
  go_wp2_with (go_at_call 110; refine (copied_any _ e q o (HQ.out _ ((Ext.refl w).alloc _)) hl).mono ?_; rintro r w3 ⟨v3, o3, rfl, hE3, hs3, hf3⟩; obtain ⟨a3, c3, rfl, -⟩ := hs3.row Ms.okCells; obtain ⟨q1, q2, q3⟩ := one_room hE3; have HE3 := Lib.hid hE3; have HS3 := Lib.hid hs3; have HF3 := Lib.hid hf3; clear hE3 hs3 hf3)
  (try simp only [Exit.inBlock, Exit.then])
  refine bodyPost_ret (resC rfl _ _ ⟨w.heap.size, 0, none⟩ (.agg (e.cells (.slice a3 e.q.length c3))) rfl ?_) rfl ?_
  · exact run_loadVar_agg 84 11 Try.isAgg84 Try.sizeOf84 _ _ _ (q3 _ rfl)
  · have hE4 : Ext w w3 := ((Ext.refl w).alloc _).trans HE3.out
    refine ⟨_, o3, rfl, hE4.putAgg _ _ (Nat.le_refl _), HS3.out.keep fun b hb => ?_, fun g hg => ?_⟩
    · have := HF3.out b hb
      simp at this
      rw [World.putAgg_other _ _ _ (by simp only; omega)]
    · have := HF3.out g hg
      simp at this
      omega
theorem hof_any (w : World) (p : Value) (H : Hom) (hb ib bb mb : Nat) (h : HomAt w p H hb ib bb mb F) (x : Int) (hl : (H.get x).q.length ≤ 1000) :
    Calls Try.prog 103 #[p, .int .u32 x] w fun r w' => ∃ v' o', r = .returned (.agg ((H.get x).cells v')) ∧ Ext w w' ∧ SlAt 79 20 Ms.cells w' v' (H.get x).q o' ∧ ∀ g, o' = some g → w.heap.size ≤ g := by
  cases hx : H.es x with
  | none =>
    have hG : H.get x = En.zero := by unfold Hom.get; rw [hx]; rfl
    rw [hG]
    refine (of_none w p H hb ib bb mb h x hx).mono ?_
    rintro r w' ⟨rfl, hE⟩
    exact ⟨_, none, rfl, hE, SlAt.nil _ _, by simp⟩
  | some e =>
    have hG : H.get x = e := by unfold Hom.get; rw [hx]; rfl
    rw [hG] at hl ⊢
    exact of_some w p H hb ib bb mb h x e hx hl
def Hom.new (m : List B16) : Hom := ⟨m, fun _ => none⟩
set_option maxRecDepth 100000 in
set_option maxHeartbeats 400000 in
theorem hnew_nil (w : World) : Calls Try.prog 58 #[.pointer none] w fun e w' => e = .returned (.tuple #[.pointer none, .int .i64 1]) ∧ w = w' := by
  go_enter Try.func58, Try.ntmps58
  go_wp2_with (go_at_call 109; refine (imgCopy_nil _).mono ?_; rintro e w1 ⟨rfl, rfl⟩)
  go_ret2
  exact ⟨rfl, rfl⟩
set_option maxRecDepth 100000 in
set_option maxHeartbeats 400000 in
theorem hnew_any (w : World) (p : Value) (ls : List B16) (ib bb : Nat) (h : ImgAt w p ls ib bb) :
    Calls Try.prog 58 #[p] w fun e w' => ∃ hb ib' bb' mb, e = .returned (.tuple #[.pointer (some ⟨hb, 0, none⟩), .int .i64 0]) ∧ Ext w w' ∧ HomAt w' (.pointer (some ⟨hb, 0, none⟩)) (Hom.new ls) hb ib' bb' mb (fun _ => False) ∧ w.heap.size ≤ hb ∧ w.heap.size ≤ bb' ∧ w.heap.size ≤ mb ∧ w.heap.size ≤ ib' := by
  have HI := Lib.hid h
  clear h
  have hmm := @run_makeMap Try.prog
  go_enter Try.func58, Try.ntmps58
  go_wp2_with (go_at_call 109; refine (imgCopy_any _ _ _ _ _ HI.out).mono ?_; rintro e w1 ⟨ib1, bb1, rfl, hE1, hi1, hl1, hl2⟩; have HE1 := Lib.hid hE1; have HI1 := Lib.hid hi1; clear hE1 hi1)
  go_ret2
  have hE2 : Ext w1 ((w1.alloc (.map #[] 0)).alloc (.cells #[.pointer (some ⟨ib1, 0, none⟩), .map (some w1.heap.size)] 106)) := ((Ext.refl w1).alloc _).alloc _
  have hs := HE1.out.size
  obtain ⟨li, lb⟩ := HI1.out.lt
  refine ⟨w1.heap.size + 1, ib1, bb1, w1.heap.size, rfl, HE1.out.trans hE2, ⟨rfl, ?_, HI1.out.ext hE2, ?_, fun x => .inl ⟨rfl, ?_⟩, ⟨by omega, by omega, by omega, by omega, by omega⟩, ⟨id, id, id, id⟩, fun _ h => h.elim, World.imapB_of_block (Below.heap_alloc _ _ _ (by simp)) (World.imapB_made w1 .u32)⟩, by omega, hl2, hs, hl1⟩
  · have := heap_alloc_new (w1.alloc (.map #[] 0)) (.cells #[.pointer (some ⟨ib1, 0, none⟩), .map (some w1.heap.size)] 106)
    simpa using this
  · rw [World.imap_alloc_past _ _ _ _ (by simp), World.imap_made _ _ _ rfl]; trivial
  · rw [World.mapGet_alloc_past _ _ _ _ _ (by simp), World.mapGet_made _ _ _ _ rfl]
set_option maxRecDepth 100000 in
theorem hmemory_nil (w : World) : Calls Try.prog 60 #[.pointer none] w fun e w' => e = .returned (.pointer none) ∧ w = w' := by
  go_enter Try.func60, Try.ntmps60
  go_wp2_with (go_at_call 99; refine (hnone_nil _).mono ?_; rintro e w1 ⟨rfl, rfl⟩)
  go_ret
  exact ⟨rfl, rfl⟩
set_option maxRecDepth 100000 in
theorem hmemory_any (w : World) (p : Value) (H : Hom) (hb ib bb mb : Nat) (h : HomAt w p H hb ib bb mb F) : Calls Try.prog 60 #[p] w (ImgPost w H.mem) := by
  obtain ⟨f0, f1⟩ := h.facts
  obtain ⟨rfl⟩ := h.p
  have HH := Lib.hid h
  clear h
  go_enter Try.func60, Try.ntmps60
  go_wp2_with (first
    | (go_at_call 99; refine (hnone_any _ _ _ _ _ _ _ HH.out).mono ?_; rintro e w1 ⟨rfl, rfl⟩)
    | (go_at_call 109; refine (imgCopy_any _ _ _ _ _ HH.out.img).mono ?_; rintro e w1 ⟨ib1, bb1, rfl, hp⟩))
  go_ret
  exact ⟨ib1, bb1, rfl, hp⟩
def enNil : Array Value := #[.int .i64 0, .bool false, .bool false, .bool false, .bool false, .bool false, .int .i64 0, .int .i64 0, .int .i64 0, .bool false, .slice none 0 0]
set_option maxRecDepth 100000 in
set_option maxHeartbeats 400000 in
theorem hentry_nil (w : World) (x : Int) : Calls Try.prog 49 #[.pointer none, .int .u32 x] w fun e w' => e = .returned (.tuple #[.agg enNil, .int .i64 1]) ∧ Ext w w' := by
  go_enter Try.func49, Try.ntmps49
  go_wp2_with (go_at_call 99; refine (hnone_nil _).mono ?_; rintro e w1 ⟨rfl, rfl⟩)
  (try simp only [Exit.inBlock, Exit.then])
  refine bodyPost_ret (resCT rfl _ _ ⟨w.heap.size, 0, none⟩ (.agg enNil) rfl ?_) rfl ⟨rfl, (Ext.refl w).alloc _⟩
  exact run_loadVar_agg 84 11 Try.isAgg84 Try.sizeOf84 _ _ _ (by simp [go_sem]; rfl)
set_option maxRecDepth 100000 in
set_option maxHeartbeats 400000 in
theorem hentry_range (w : World) (p : Value) (H : Hom) (hb ib bb mb : Nat) (h : HomAt w p H hb ib bb mb F) (x : Int) (h0 : 0 ≤ x ∧ x < 4294967296) (hx : (H.mem.length : Int) ≤ x) : Calls Try.prog 49 #[p, .int .u32 x] w fun e w' => e = .returned (.tuple #[.agg enNil, .int .i64 4]) ∧ Ext w w' := by
  have hwr : wrap64 x = x := by unfold wrap64; omega
  have hx' : ((H.mem.length : Int) ≤ x) = True := eq_true hx
  obtain ⟨rfl⟩ := h.p
  have HH := Lib.hid (fun W (hE : Ext w W) => h.ext hE)
  clear h
  go_enter Try.func49, Try.ntmps49
  go_wp2_with (first
    | (go_at_call 99; refine (hnone_any _ _ _ _ _ _ _ (HH.out _ ((Ext.refl w).alloc _))).mono ?_; rintro e w1 ⟨rfl, rfl⟩)
    | (go_at_call 46; refine (hlines_any _ _ _ _ _ _ _ (HH.out _ ((Ext.refl w).alloc _))).mono ?_; rintro e w1 ⟨rfl, rfl⟩))
  (try simp only [Exit.inBlock, Exit.then])
  refine bodyPost_ret (resCT rfl _ _ ⟨w.heap.size, 0, none⟩ (.agg enNil) rfl ?_) rfl ⟨rfl, (Ext.refl w).alloc _⟩
  exact run_loadVar_agg 84 11 Try.isAgg84 Try.sizeOf84 _ _ _ (by simp [go_sem]; rfl)
set_option maxRecDepth 100000 in
set_option maxHeartbeats 400000 in
theorem hentry_any (w : World) (p : Value) (H : Hom) (hb ib bb mb : Nat) (h : HomAt w p H hb ib bb mb F) (x : Int) (h0 : 0 ≤ x ∧ x < 4294967296) (hx : ¬ (H.mem.length : Int) ≤ x) (hl : (H.get x).q.length ≤ 1000) :
    Calls Try.prog 49 #[p, .int .u32 x] w fun e w' => ∃ v o, e = .returned (.tuple #[.agg ((H.get x).cells v), .int .i64 0]) ∧ Ext w w' ∧ SlAt 79 20 Ms.cells w' v (H.get x).q o := by
  have hwr : wrap64 x = x := by unfold wrap64; omega
  have hx' : ((H.mem.length : Int) ≤ x) = False := eq_false hx
  obtain ⟨rfl⟩ := h.p
  have HH := Lib.hid (fun W (hE : Ext w W) => h.ext hE)
  clear h
  go_enter Try.func49, Try.ntmps49
  go_wp2_with (first
    | (go_at_call 99; refine (hnone_any _ _ _ _ _ _ _ (HH.out _ ((Ext.refl w).alloc _))).mono ?_; rintro e w1 ⟨rfl, rfl⟩)
    | (go_at_call 46; refine (hlines_any _ _ _ _ _ _ _ (HH.out _ ((Ext.refl w).alloc _))).mono ?_; rintro e w1 ⟨rfl, rfl⟩)
    | (go_at_call 103; refine (hof_any _ _ _ _ _ _ _ (HH.out _ ((Ext.refl w).alloc _)) x hl).mono ?_; rintro r w3 ⟨v3, o3, rfl, hE3, hs3, hf3⟩; obtain ⟨a3, c3, rfl, -⟩ := hs3.row Ms.okCells; obtain ⟨q1, q2, q3⟩ := one_room hE3; have HE3 := Lib.hid hE3; have HS3 := Lib.hid hs3; have HF3 := Lib.hid hf3; clear hE3 hs3 hf3))
  (try simp only [Exit.inBlock, Exit.then])
  refine bodyPost_ret (resCT rfl _ _ ⟨w.heap.size, 0, none⟩ (.agg ((H.get x).cells (.slice a3 (H.get x).q.length c3))) rfl ?_) rfl ?_
  · exact run_loadVar_agg 84 11 Try.isAgg84 Try.sizeOf84 _ _ _ (q3 _ rfl)
  · have hE4 : Ext w w3 := ((Ext.refl w).alloc _).trans HE3.out
    refine ⟨_, o3, rfl, hE4.putAgg _ _ (Nat.le_refl _), HS3.out.keep fun b hb => ?_⟩
    have := HF3.out b hb
    simp at this
    rw [World.putAgg_other _ _ _ (by simp only; omega)]
end Go.Proofs
