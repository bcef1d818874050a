/- Maps whose keys are whole numbers, ranged over: each key once, in an order that is left open. -/
import Derived.Test.YtgggokajapoopaaMp
import Derived.Maps.RangeRun
namespace Go
open Go.RowKit
/-- Block b is a map of these entries: each key once, each stamp once. -/
structure World.bmap (w : World) (b : Nat) (q : IntKind) (es : Array MapEntry) (clock : Nat) : Prop where
  hb : w.heap[b]? = some (.map es clock)
  keys : ∀ e ∈ es.toList, ∃ k, e.key = .int q k
  born : ∀ e ∈ es.toList, e.born < clock
  nb : (es.toList.map (·.born)).Nodup
  nk : (es.toList.map (·.key)).Nodup
def World.imapB (w : World) (b : Nat) (q : IntKind) : Prop := ∃ es clock, w.bmap b q es clock
theorem World.imapB_of_block {w w' : World} {b : Nat} {q : IntKind} (h : w'.heap[b]? = w.heap[b]?) (hb : w.imapB b q) : w'.imapB b q := by
  obtain ⟨es, clock, h1, h2, h3, h4, h5⟩ := hb
  exact ⟨es, clock, h.trans h1, h2, h3, h4, h5⟩
theorem World.imapB_made (w : World) (q : IntKind) : (w.alloc (.map #[] 0)).imapB w.heap.size q :=
  ⟨#[], 0, heap_alloc_new w _, by simp, by simp, by simp, by simp⟩
theorem keyIs_iff {q : IntKind} {x : Int} {e : MapEntry} : keyIs q x e = true ↔ e.key = .int q x := by
  constructor
  · exact keyIs_int
  · intro h; unfold keyIs; rw [h]; simp
theorem World.mapGet_some {w : World} {b : Nat} {q : IntKind} {es : Array MapEntry} {clock : Nat} (h : w.bmap b q es clock) {x : Int} {v : Value} (hv : w.mapGet b q x = some v) : ∃ e ∈ es.toList, e.key = .int q x ∧ e.val = v := by
  unfold World.mapGet at hv
  rw [h.hb] at hv
  simp only [Option.map_eq_some_iff] at hv
  obtain ⟨e, he, rfl⟩ := hv
  exact ⟨e, List.mem_of_find?_eq_some he, keyIs_iff.1 (List.find?_some he), rfl⟩
theorem key_inj {l : List MapEntry} (hn : (l.map (·.key)).Nodup) {x e : MapEntry} (hx : x ∈ l) (he : e ∈ l) (h : x.key = e.key) : x = e := by
  induction l with
  | nil => cases hx
  | cons a l ih =>
    rw [List.map_cons, List.nodup_cons] at hn
    rcases List.mem_cons.1 hx with h1 | h1
    · rcases List.mem_cons.1 he with h2 | h2
      · rw [h1, h2]
      · exact absurd (List.mem_map.2 ⟨e, h2, by rw [← h, h1]⟩) hn.1
    · rcases List.mem_cons.1 he with h2 | h2
      · exact absurd (List.mem_map.2 ⟨x, h1, by rw [h, h2]⟩) hn.1
      · exact ih hn.2 h1 h2
theorem World.mapGet_of {w : World} {b : Nat} {q : IntKind} {es : Array MapEntry} {clock : Nat} (h : w.bmap b q es clock) {e : MapEntry} (he : e ∈ es.toList) {x : Int} (hk : e.key = .int q x) : w.mapGet b q x = some e.val := by
  unfold World.mapGet
  rw [h.hb]
  have hs : (es.toList.find? (keyIs q x)).isSome := List.find?_isSome.2 ⟨e, he, keyIs_iff.2 hk⟩
  obtain ⟨e', he'⟩ := Option.isSome_iff_exists.1 hs
  have h1 := keyIs_iff.1 (List.find?_some he')
  have : e' = e := key_inj h.nk (List.mem_of_find?_eq_some he') he (h1.trans hk.symm)
  simp only [he', this, Option.map_some]
theorem modify_same {l : List MapEntry} {q : IntKind} {x : Int} {v : Value} : ∀ {i : Nat}, l.findIdx? (keyIs q x) = some i →
    ((l.modify i fun e => { e with key := .int q x, val := v }).map (·.key) = l.map (·.key)) ∧ ((l.modify i fun e => { e with key := .int q x, val := v }).map (·.born) = l.map (·.born)) := by
  induction l with
  | nil => intro i h; simp at h
  | cons e l ih =>
    intro i h
    rw [List.findIdx?_cons] at h
    by_cases he : keyIs q x e = true
    · rw [if_pos he] at h
      cases h
      simp [(keyIs_iff.1 he)]
    · rw [if_neg he] at h
      cases hi : l.findIdx? (keyIs q x) with
      | none => rw [hi] at h; simp at h
      | some j =>
        rw [hi] at h
        simp at h
        subst h
        obtain ⟨h1, h2⟩ := ih hi
        simp only [List.modify_succ_cons, List.map_cons, h1, h2]
        exact ⟨trivial, trivial⟩
theorem mem_of_maps {l l' : List MapEntry} {α : Type} {f : MapEntry → α} (h : l'.map f = l.map f) {e : MapEntry} (he : e ∈ l') : ∃ e0 ∈ l, f e0 = f e := by
  have := List.mem_map_of_mem (f := f) he
  rw [h] at this
  obtain ⟨e0, h0, h1⟩ := List.mem_map.1 this
  exact ⟨e0, h0, h1⟩
theorem World.imapB_mapPut {w : World} {b : Nat} {q : IntKind} (h : w.imapB b q) (x : Int) (v : Value) : (w.mapPut b q x v).imapB b q := by
  obtain ⟨es, clock, h1, h2, h3, h4, h5⟩ := h
  have hp := World.mapPut_heap (q := q) (x := x) (v := v) h1
  unfold putObjE at hp
  cases hi : es.toList.findIdx? (keyIs q x) with
  | some i =>
    rw [hi] at hp
    obtain ⟨m1, m2⟩ := modify_same (v := v) hi
    refine ⟨_, _, hp, ?_, ?_, ?_, ?_⟩
    · intro e he
      rw [Array.toList_modify] at he
      obtain ⟨e0, g1, g2⟩ := mem_of_maps m1 he
      rw [← g2]; exact h2 e0 g1
    · intro e he
      rw [Array.toList_modify] at he
      obtain ⟨e0, g1, g2⟩ := mem_of_maps m2 he
      rw [← g2]; exact h3 e0 g1
    · rw [Array.toList_modify, m2]; exact h4
    · rw [Array.toList_modify, m1]; exact h5
  | none =>
    rw [hi] at hp
    have hno : ∀ e ∈ es.toList, e.key ≠ .int q x := fun e he hk => by
      have := List.findIdx?_eq_none_iff.1 hi e he
      rw [keyIs_iff.2 hk] at this; cases this
    refine ⟨_, _, hp, ?_, ?_, ?_, ?_⟩
    · intro e he
      rw [Array.toList_push] at he
      rcases List.mem_append.1 he with he | he
      · exact h2 e he
      · rw [List.mem_singleton] at he; subst he; exact ⟨x, rfl⟩
    · intro e he
      rw [Array.toList_push] at he
      rcases List.mem_append.1 he with he | he
      · have := h3 e he; omega
      · rw [List.mem_singleton] at he; subst he; exact Nat.lt_succ_self _
    · rw [Array.toList_push, List.map_append, List.nodup_append]
      refine ⟨h4, by simp, ?_⟩
      intro a ha c hc
      obtain ⟨e, he, rfl⟩ := List.mem_map.1 ha
      simp only [List.map_cons, List.map_nil, List.mem_singleton] at hc
      have := h3 e he; omega
    · rw [Array.toList_push, List.map_append, List.nodup_append]
      refine ⟨h5, by simp, ?_⟩
      intro a ha c hc
      obtain ⟨e, he, rfl⟩ := List.mem_map.1 ha
      simp only [List.map_cons, List.map_nil, List.mem_singleton] at hc
      rw [hc]; exact hno e he
/-- The iterator r upon the map b: what has come. -/
structure World.miter (w : World) (b r : Nat) (q : IntKind) (es : Array MapEntry) (clock : Nat) (seen : Array Nat) : Prop where
  map : w.bmap b q es clock
  hr : w.heap[r]? = some (.mapIter (some b) clock seen clock)
theorem World.miter.keep {w w' : World} {b r : Nat} {q : IntKind} {es : Array MapEntry} {clock : Nat} {seen : Array Nat} (h : w.miter b r q es clock seen) (h1 : w'.heap[b]? = w.heap[b]?) (h2 : w'.heap[r]? = w.heap[r]?) : w'.miter b r q es clock seen := by
  obtain ⟨⟨a1, a2, a3, a4, a5⟩, a6⟩ := h
  exact ⟨⟨h1.trans a1, a2, a3, a4, a5⟩, h2.trans a6⟩
theorem World.bmap.start {w : World} {b : Nat} {q : IntKind} {es : Array MapEntry} {clock : Nat} (h : w.bmap b q es clock) : (w.alloc (.mapIter (some b) clock #[] clock)).miter b w.heap.size q es clock #[] := by
  have hl : b < w.heap.size := (Array.getElem?_eq_some_iff.1 h.hb).1
  obtain ⟨a1, a2, a3, a4, a5⟩ := h
  exact ⟨⟨(Below.heap_alloc w _ _ hl).trans a1, a2, a3, a4, a5⟩, heap_alloc_new w _⟩
/-- The iterator's next step: an entry that has not come yet, or none is left. -/
theorem World.miter.next {P : Program} {w : World} {b r : Nat} {q : IntKind} {es : Array MapEntry} {clock : Nat} {seen : Array Nat} (h : w.miter b r q es clock seen) (hbr : b ≠ r) (ty : TypeId) :
    ((leftOf es seen).size = 0 ∧ (∀ e ∈ es.toList, seen.contains e.born = true) ∧ (Instr.next (.pointer (some ⟨r, 0, none⟩)) false ty).run P w = .ok (.tuple #[.bool false]) w) ∨
    ∃ e k w', e ∈ es.toList ∧ e.key = .int q k ∧ seen.contains e.born = false ∧ (leftOf es (seen.push e.born)).size < (leftOf es seen).size ∧ (Instr.next (.pointer (some ⟨r, 0, none⟩)) false ty).run P w = .ok (.tuple #[.bool true, .int q k, e.val]) w' ∧ w'.miter b r q es clock (seen.push e.born) ∧
      (∀ x, x ≠ r → w'.heap[x]? = w.heap[x]?) ∧ w'.os = w.os ∧ w'.tape = w.tape ∧ w'.output = w.output ∧ w'.heap.size = w.heap.size ∧ (Instr.entry (.pointer (some ⟨r, 0, none⟩))).run P w' = .ok (.tuple #[.int q k, e.val]) w' := by
  rcases run_next_at (P := P) w ty r b clock clock seen es clock h.hr h.map.hb h.map.born (Nat.le_refl _) with ⟨h0, hrun⟩ | ⟨e, he, w1, hal, hrun⟩
  · exact .inl ⟨h0, all_seen es seen h0, hrun⟩
  · obtain ⟨m1, m2⟩ := mem_left he
    obtain ⟨k, hk⟩ := h.map.keys e m1
    have hw1 : w1.heap = w.heap ∧ w1.os = w.os ∧ w1.tape = w.tape ∧ w1.output = w.output := by rcases hal with rfl | rfl <;> exact ⟨rfl, rfl, rfl, rfl⟩
    have hrl : r < w.heap.size := (Array.getElem?_eq_some_iff.1 h.hr).1
    have hother : ∀ x, x ≠ r → (Go.ChangeMaps.setBlock w1 r (.mapIter (some b) clock (seen.push e.born) clock)).heap[x]? = w.heap[x]? := fun x hx => by
      simp only [Go.ChangeMaps.setBlock, hw1.1]
      rw [Array.getElem?_setIfInBounds_ne (Ne.symm hx)]
    have hself : (Go.ChangeMaps.setBlock w1 r (.mapIter (some b) clock (seen.push e.born) clock)).heap[r]? = some (.mapIter (some b) clock (seen.push e.born) clock) := by
      simp only [Go.ChangeMaps.setBlock, hw1.1]
      rw [Array.getElem?_setIfInBounds_self_of_lt hrl]
    refine .inr ⟨e, k, _, m1, hk, m2, left_shrinks es seen e he, by rw [hrun, hk], ⟨⟨(hother b hbr).trans h.map.hb, h.map.keys, h.map.born, h.map.nb, h.map.nk⟩, hself⟩, hother, hw1.2.1, hw1.2.2.1, hw1.2.2.2, by simp [Go.ChangeMaps.setBlock, hw1.1], ?_⟩
    have := run_entry_at (P := P) _ r b clock seen es clock e hself ((hother b hbr).trans h.map.hb) m1 h.map.nb
    rw [this, hk]
end Go
