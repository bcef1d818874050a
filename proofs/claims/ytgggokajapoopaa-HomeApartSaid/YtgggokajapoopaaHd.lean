/- The home as the document says, in plain Lean: what a message's taking makes of an entry, and what holds of entries all along. -/
import Derived.Test.YtgggokajapoopaaHr
namespace Go
open Go.RowKit Go.Proofs
def WkS.back (k : WkS) (m : Ms) : WkS :=
  let k1 : WkS := { k with mem := k.mem.set k.line m.b, e := { k.e with waits := 0 } }
  if k.e.kind = 2 then k1.write
  else
    let k3 : WkS := { k1 with e := ((k1.e.own (-1)).setShare m.frm true).setShare k.e.asks true }
    let k4 := k3.send 8 k.e.asks true
    { k4 with e := { k4.e with told := true } }
def WkS.ack (k : WkS) (m : Ms) : WkS :=
  let k1 : WkS := { k with e := { k.e.setShare m.frm false with waits := k.e.waits - 1 } }
  if k.e.waits - 1 = 0 then k1.write else k1
/-- Requests that wait begin, one behind the other, till one of them is busy. -/
def WkS.drain : Nat → WkS → WkS
  | 0, k => k
  | n + 1, k => match k.e.busy, k.e.q with
    | false, m :: q => WkS.drain n (({ k with e := { k.e with q := q } } : WkS).begun m)
    | _, _ => k
def WkS.freed (k : WkS) : WkS := { k with e := { k.e with busy := false, asks := 0, kind := 0, told := false } }
def WkS.fin (k : WkS) : WkS := k.freed.drain k.e.q.length
/-- May a Back, an Ack, a Done be? -/
def En.mayBack (e : En) (m : Ms) : Bool := e.busy && decide (0 < e.waits) && (e.owner == m.frm)
def En.mayAck (e : En) (m : Ms) : Bool := e.busy && decide (0 < e.waits) && decide (e.owner < 0) && e.share m.frm.toNat && (m.frm != e.asks)
def En.mayDone (e : En) (m : Ms) : Bool := e.busy && e.told && (e.asks == m.frm)
/-- A message is taken: the work behind it, or none (it is refused). -/
def WkS.took (k : WkS) (m : Ms) : Option WkS :=
  if m.kind ≤ 3 then some (k.asked m)
  else if m.kind = 11 then (if k.e.mayBack m then some (k.back m) else none)
  else if m.kind = 12 then (if k.e.mayAck m then some (k.ack m) else none)
  else (if k.e.mayDone m then some k.fin else none)
/-- What holds of an entry all along. -/
structure EnW (e : En) (x : Int) : Prop where
  own : e.owner = -1 ∨ (0 ≤ e.owner ∧ e.owner < 4)
  apart : 0 ≤ e.owner → e.s0 = false ∧ e.s1 = false ∧ e.s2 = false ∧ e.s3 = false
  idle : e.busy = false → e.waits = 0 ∧ e.told = false
  asks : e.busy = true → 0 ≤ e.asks ∧ e.asks < 4 ∧ (e.kind = 1 ∨ e.kind = 2)
  told : e.told = true → e.waits = 0
  far : e.waits ≠ 0 → e.owner ≠ e.asks
  nn : 0 ≤ e.waits ∧ e.waits ≤ 4
  q : ∀ m ∈ e.q, m.asking ∧ m.line = x
structure EnOk (e : En) (x : Int) : Prop where
  w : EnW e x
  rest : e.busy = false → e.q = []
theorem nn0 : (0 : Int) ≤ 0 ∧ (0 : Int) ≤ 4 := by decide
theorem nn1 : (0 : Int) ≤ 1 ∧ (1 : Int) ≤ 4 := by decide
theorem EnOk.zero (x : Int) : EnOk En.zero x :=
  ⟨⟨.inl rfl, fun _ => ⟨rfl, rfl, rfl, rfl⟩, fun _ => ⟨rfl, rfl⟩, (fun h => by cases h), fun _ => rfl, fun h => absurd rfl h, nn0, fun _ h => by cases h⟩, fun _ => rfl⟩
theorem WkS.write_parts (k : WkS) : k.write.e = { k.e.own k.e.asks with told := true } ∧ k.write.mem = k.mem ∧ k.write.line = k.line ∧ k.write.out.length = k.out.length + 1 := by
  refine ⟨rfl, rfl, rfl, ?_⟩
  simp [WkS.write, WkS.send]
theorem EnW.leave {e : En} {x : Int} (h : EnW e x) (hb : e.busy = false) (r : Int) : EnW (e.leave r) x ∧ (e.leave r).busy = false ∧ (e.leave r).q = e.q ∧ (e.leave r).owner ≠ r ∨ r < 0 := by
  by_cases hr : r < 0
  · exact .inr hr
  · refine .inl ?_
    unfold En.leave
    by_cases ho : e.owner = r
    · rw [if_pos ho]
      have hw := (h.idle hb).1
      exact ⟨⟨.inl rfl, fun h' => absurd h' (show ¬ (0 : Int) ≤ -1 by decide), h.idle, h.asks, h.told, fun h' => absurd hw h', h.nn, h.q⟩, hb, rfl, (show (-1 : Int) ≠ r by omega)⟩
    · rw [if_neg ho]
      exact ⟨h, hb, rfl, ho⟩
/-- What a request that begins leaves. -/
structure Begun (k k' : WkS) (x : Int) : Prop where
  w : EnW k'.e x
  q : k'.e.q = k.e.q
  mem : k'.mem.length = k.mem.length
  line : k'.line = k.line
  out : k'.out.length ≤ k.out.length + 4
theorem En.setShare_parts (e : En) (i : Int) (b : Bool) : (e.setShare i b).owner = e.owner ∧ (e.setShare i b).busy = e.busy ∧ (e.setShare i b).asks = e.asks ∧ (e.setShare i b).kind = e.kind ∧ (e.setShare i b).waits = e.waits ∧ (e.setShare i b).told = e.told ∧ (e.setShare i b).q = e.q := by
  unfold En.setShare
  split
  · exact ⟨rfl, rfl, rfl, rfl, rfl, rfl, rfl⟩
  · split
    · exact ⟨rfl, rfl, rfl, rfl, rfl, rfl, rfl⟩
    · split <;> exact ⟨rfl, rfl, rfl, rfl, rfl, rfl, rfl⟩
theorem Begun.gets {k : WkS} {m : Ms} {x : Int} (h : EnW k.e x) (hb : k.e.busy = false) (hk : m.kind = 1) (hr : 0 ≤ m.frm ∧ m.frm < 4) : Begun k (k.gets m) x := by
  obtain ⟨w, b, q, f⟩ : EnW (k.e.leave m.frm) x ∧ (k.e.leave m.frm).busy = false ∧ (k.e.leave m.frm).q = k.e.q ∧ (k.e.leave m.frm).owner ≠ m.frm := by
    rcases h.leave hb m.frm with h | h
    · exact h
    · omega
  unfold WkS.gets
  split
  · rename_i ho
    refine ⟨⟨w.own, w.apart, (fun h => by cases h), fun _ => ⟨hr.1, hr.2, .inl hk⟩, (fun h => by cases h), fun _ => f, nn1, fun y hy => w.q y hy⟩, q, rfl, rfl, ?_⟩
    simp [WkS.send, WkS.busied, WkS.left]
  · rename_i ho
    split
    · obtain ⟨s1, s2, s3, s4, s5, s6, s7⟩ := En.setShare_parts (k.e.leave m.frm) m.frm true
      refine ⟨⟨?_, ?_, (fun h => by cases h), fun _ => ⟨hr.1, hr.2, .inl hk⟩, fun _ => rfl, fun h => absurd rfl h, nn0, fun y hy => w.q y ?_⟩, s7.trans q, rfl, rfl, ?_⟩
      · show ((k.e.leave m.frm).setShare m.frm true).owner = -1 ∨ (0 ≤ ((k.e.leave m.frm).setShare m.frm true).owner ∧ ((k.e.leave m.frm).setShare m.frm true).owner < 4)
        rw [s1]; exact w.own
      · show 0 ≤ ((k.e.leave m.frm).setShare m.frm true).owner → _
        rw [s1]; exact fun h => absurd h ho
      · have hy : y ∈ ((k.e.leave m.frm).setShare m.frm true).q := hy
        rw [s7] at hy; exact hy
      · simp [WkS.send, WkS.busied, WkS.left]
    · refine ⟨⟨.inr hr, fun _ => ⟨rfl, rfl, rfl, rfl⟩, (fun h => by cases h), fun _ => ⟨hr.1, hr.2, .inl hk⟩, fun _ => rfl, fun h => absurd rfl h, nn0, fun y hy => w.q y hy⟩, q, rfl, rfl, ?_⟩
      simp [WkS.send, WkS.busied, WkS.left]
theorem Begun.getm {k : WkS} {m : Ms} {x : Int} (h : EnW k.e x) (hb : k.e.busy = false) (hk : m.kind = 2) (hr : 0 ≤ m.frm ∧ m.frm < 4) : Begun k (k.getm m) x := by
  obtain ⟨w, b, q, f⟩ : EnW (k.e.leave m.frm) x ∧ (k.e.leave m.frm).busy = false ∧ (k.e.leave m.frm).q = k.e.q ∧ (k.e.leave m.frm).owner ≠ m.frm := by
    rcases h.leave hb m.frm with h | h
    · exact h
    · omega
  have h4 := (k.e.leave m.frm).others_le m.frm
  unfold WkS.getm
  split
  · rename_i ho
    refine ⟨⟨w.own, w.apart, (fun h => by cases h), fun _ => ⟨hr.1, hr.2, .inr hk⟩, (fun h => by cases h), fun _ => f, nn1, fun y hy => w.q y hy⟩, q, rfl, rfl, ?_⟩
    simp [WkS.send, WkS.busied, WkS.left]
  · rename_i ho
    split
    · rename_i hz
      refine ⟨⟨.inr hr, fun _ => ⟨rfl, rfl, rfl, rfl⟩, (fun h => by cases h), fun _ => ⟨hr.1, hr.2, .inr hk⟩, fun _ => ?_, fun h => absurd ?_ h, ?_, fun y hy => w.q y hy⟩, q, rfl, rfl, ?_⟩
      · show ((((k.left m).e.others m.frm).length : Nat) : Int) = 0
        rw [hz]; rfl
      · show ((((k.left m).e.others m.frm).length : Nat) : Int) = 0
        rw [hz]; rfl
      · show (0 : Int) ≤ ((((k.left m).e.others m.frm).length : Nat) : Int) ∧ ((((k.left m).e.others m.frm).length : Nat) : Int) ≤ 4
        have h4' : ((k.left m).e.others m.frm).length ≤ 4 := h4
        omega
      · rw [(WkS.write_parts _).2.2.2]
        simp only [WkS.busied, WkS.drops, WkS.left, List.length_append, List.length_map]
        have hz' : ((k.e.leave m.frm).others m.frm).length = 0 := hz
        omega
    · refine ⟨⟨w.own, w.apart, (fun h => by cases h), fun _ => ⟨hr.1, hr.2, .inr hk⟩, (fun h => by cases h), fun _ => f, ?_, fun y hy => w.q y hy⟩, q, rfl, rfl, ?_⟩
      · show (0 : Int) ≤ ((((k.left m).e.others m.frm).length : Nat) : Int) ∧ ((((k.left m).e.others m.frm).length : Nat) : Int) ≤ 4
        have h4' : ((k.left m).e.others m.frm).length ≤ 4 := h4
        omega
      · simp only [WkS.busied, WkS.drops, WkS.left, List.length_append, List.length_map]
        omega
theorem Begun.put {k : WkS} {m : Ms} {x : Int} (h : EnW k.e x) (hb : k.e.busy = false) : Begun k (k.put m) x := by
  unfold WkS.put
  split
  · have hw := (h.idle hb).1
    refine ⟨⟨.inl rfl, fun h' => absurd h' (show ¬ (0 : Int) ≤ -1 by decide), h.idle, h.asks, h.told, fun h' => absurd hw h', h.nn, h.q⟩, rfl, ?_, rfl, ?_⟩
    · simp [WkS.send]
    · simp [WkS.send]
  · refine ⟨h, rfl, rfl, rfl, ?_⟩
    simp [WkS.send]
theorem Begun.any {k : WkS} {m : Ms} {x : Int} (h : EnW k.e x) (hb : k.e.busy = false) (hm : m.asking) : Begun k (k.begun m) x := by
  obtain ⟨hk | hk | hk, hr⟩ := hm
  · unfold WkS.begun; rw [if_pos hk]; exact Begun.gets h hb hk hr
  · unfold WkS.begun; rw [if_neg (by omega), if_pos hk]; exact Begun.getm h hb hk hr
  · unfold WkS.begun; rw [if_neg (by omega), if_neg (by omega)]; exact Begun.put h hb
/-- What a message's taking leaves. -/
structure Took (k k' : WkS) (x : Int) (n : Nat) : Prop where
  ok : EnOk k'.e x
  q : k'.e.q.length ≤ k.e.q.length + 1
  mem : k'.mem.length = k.mem.length
  line : k'.line = k.line
  out : k'.out.length ≤ k.out.length + n
theorem drain_stop (n : Nat) (k : WkS) (h : k.e.busy = true ∨ k.e.q = []) : k.drain n = k := by
  cases n with
  | zero => rfl
  | succ n =>
    unfold WkS.drain
    rcases h with h | h
    · rw [h]
    · rw [h]; cases k.e.busy <;> rfl
theorem drain_step (n : Nat) (k : WkS) (m : Ms) (q : List Ms) (h1 : k.e.busy = false) (h2 : k.e.q = m :: q) : k.drain (n + 1) = (({ k with e := { k.e with q := q } } : WkS).begun m).drain n := by
  conv => lhs; unfold WkS.drain
  rw [h1, h2]
theorem EnW.tail {e : En} {x : Int} {m : Ms} {q : List Ms} (h : EnW e x) (hq : e.q = m :: q) : EnW { e with q := q } x ∧ m.asking ∧ m.line = x :=
  ⟨⟨h.own, h.apart, h.idle, h.asks, h.told, h.far, h.nn, fun y hy => h.q y (by rw [hq]; exact List.mem_cons_of_mem _ hy)⟩, h.q m (by rw [hq]; exact List.mem_cons_self ..)⟩
theorem Took.drain {x : Int} : ∀ (n : Nat) (k : WkS), EnW k.e x → k.e.q.length ≤ n →
    EnOk (k.drain n).e x ∧ (k.drain n).e.q.length ≤ k.e.q.length ∧ (k.drain n).mem.length = k.mem.length ∧ (k.drain n).line = k.line ∧ (k.drain n).out.length ≤ k.out.length + 4 * k.e.q.length
  | 0, k, h, hn => by
    have e : k.drain 0 = k := rfl
    rw [e]
    exact ⟨⟨h, fun _ => List.eq_nil_of_length_eq_zero (by omega)⟩, Nat.le_refl _, rfl, rfl, by omega⟩
  | n + 1, k, h, hn => by
    cases hb : k.e.busy with
    | true => rw [drain_stop _ _ (.inl hb)]; exact ⟨⟨h, fun e => by rw [hb] at e; cases e⟩, Nat.le_refl _, rfl, rfl, by omega⟩
    | false =>
      cases hq : k.e.q with
      | nil => rw [drain_stop _ _ (.inr hq)]; exact ⟨⟨h, fun _ => hq⟩, by rw [hq]; exact Nat.le_refl _, rfl, rfl, by omega⟩
      | cons m q =>
        rw [drain_step n k m q hb hq]
        obtain ⟨h', ha, -⟩ := h.tail hq
        have hB := Begun.any (k := { k with e := { k.e with q := q } }) h' hb ha
        have hl : k.e.q.length = q.length + 1 := by rw [hq]; rfl
        obtain ⟨k', hk'⟩ : ∃ k', k' = ({ k with e := { k.e with q := q } } : WkS).begun m := ⟨_, rfl⟩
        rw [← hk'] at hB ⊢
        have hq' : k'.e.q = q := hB.q
        obtain ⟨i1, i2, i3, i4, i5⟩ := Took.drain n k' hB.w (by rw [hq']; omega)
        rw [hq'] at i2 i5
        have ho : k'.out.length ≤ k.out.length + 4 := hB.out
        refine ⟨i1, ?_, i3.trans hB.mem, i4.trans hB.line, ?_⟩
        · simp only [List.length_cons]; omega
        · simp only [List.length_cons]; omega
theorem Took.fin {k : WkS} {x : Int} {m : Ms} (h : EnOk k.e x) (hm : k.e.mayDone m = true) : Took k k.fin x (4 * k.e.q.length) := by
  simp only [En.mayDone, Bool.and_eq_true] at hm
  have hw := h.w.told hm.1.2
  have hE : EnW k.freed.e x := ⟨h.w.own, h.w.apart, fun _ => ⟨hw, rfl⟩, (fun h => by cases h), (fun h => by cases h), fun h => absurd hw h, h.w.nn, h.w.q⟩
  obtain ⟨i1, i2, i3, i4, i5⟩ := Took.drain k.e.q.length k.freed hE (Nat.le_refl _)
  exact ⟨i1, Nat.le_succ_of_le i2, i3, i4, i5⟩
theorem Took.asked {k : WkS} {x : Int} {m : Ms} (h : EnOk k.e x) (hm : m.asking) (hl : m.line = x) : Took k (k.asked m) x 4 := by
  unfold WkS.asked
  cases hb : k.e.busy with
  | true =>
    refine ⟨⟨⟨h.w.own, h.w.apart, fun e => ?_, h.w.asks, h.w.told, h.w.far, h.w.nn, fun y hy => ?_⟩, fun e => ?_⟩, ?_, rfl, rfl, by simp⟩
    · have e : k.e.busy = false := e
      rw [hb] at e; cases e
    · have hy : y ∈ k.e.q ++ [m] := hy
      rcases List.mem_append.1 hy with hy | hy
      · exact h.w.q y hy
      · rw [List.mem_singleton] at hy; subst hy; exact ⟨hm, hl⟩
    · have e : k.e.busy = false := e
      rw [hb] at e; cases e
    · show (k.e.q ++ [m]).length ≤ _
      simp
  | false =>
    have hq := h.rest hb
    have hB := Begun.any h.w hb hm
    have hq' : (k.begun m).e.q = [] := hB.q.trans hq
    refine ⟨⟨hB.w, fun _ => hq'⟩, ?_, hB.mem, hB.line, hB.out⟩
    show (k.begun m).e.q.length ≤ _
    rw [hq']; simp
theorem Took.back {k : WkS} {x : Int} {m : Ms} (h : EnOk k.e x) (hm : k.e.mayBack m = true) : Took k (k.back m) x 4 := by
  simp only [En.mayBack, Bool.and_eq_true, decide_eq_true_eq] at hm
  obtain ⟨⟨hb, hw⟩, ho⟩ := hm
  obtain ⟨a1, a2, a3⟩ := h.w.asks hb
  unfold WkS.back
  split
  · rename_i hk
    refine ⟨⟨⟨.inr ⟨a1, a2⟩, fun _ => ⟨rfl, rfl, rfl, rfl⟩, fun e => ?_, h.w.asks, fun _ => rfl, fun h => absurd rfl h, nn0, h.w.q⟩, fun e => ?_⟩, Nat.le_succ _, by simp [(WkS.write_parts _).2.1], rfl, ?_⟩
    · have e : k.e.busy = false := e
      rw [hb] at e; cases e
    · have e : k.e.busy = false := e
      rw [hb] at e; cases e
    · rw [(WkS.write_parts _).2.2.2]; show k.out.length + 1 ≤ _; omega
  · rename_i hk
    obtain ⟨s1, s2, s3, s4, s5, s6, s7⟩ := En.setShare_parts (({ k.e with waits := 0 } : En).own (-1)) m.frm true
    obtain ⟨t1, t2, t3, t4, t5, t6, t7⟩ := En.setShare_parts ((({ k.e with waits := 0 } : En).own (-1)).setShare m.frm true) k.e.asks true
    refine ⟨⟨⟨.inl (t1.trans s1), fun e => ?_, fun e => ?_, fun _ => ?_, fun _ => t5.trans s5, fun h => absurd (t5.trans s5) h, ?_, fun y hy => h.w.q y ?_⟩, fun e => ?_⟩, ?_, by simp [WkS.send], rfl, ?_⟩
    · have e : 0 ≤ (((({ k.e with waits := 0 } : En).own (-1)).setShare m.frm true).setShare k.e.asks true).owner := e
      rw [t1, s1] at e; exact absurd e (show ¬ (0 : Int) ≤ -1 by decide)
    · have e : (((({ k.e with waits := 0 } : En).own (-1)).setShare m.frm true).setShare k.e.asks true).busy = false := e
      rw [t2, s2] at e
      have e : k.e.busy = false := e
      rw [hb] at e; cases e
    · show 0 ≤ (((({ k.e with waits := 0 } : En).own (-1)).setShare m.frm true).setShare k.e.asks true).asks ∧ (((({ k.e with waits := 0 } : En).own (-1)).setShare m.frm true).setShare k.e.asks true).asks < 4 ∧ ((((({ k.e with waits := 0 } : En).own (-1)).setShare m.frm true).setShare k.e.asks true).kind = 1 ∨ (((({ k.e with waits := 0 } : En).own (-1)).setShare m.frm true).setShare k.e.asks true).kind = 2)
      rw [t3, s3, t4, s4]; exact ⟨a1, a2, a3⟩
    · show 0 ≤ (((({ k.e with waits := 0 } : En).own (-1)).setShare m.frm true).setShare k.e.asks true).waits ∧ (((({ k.e with waits := 0 } : En).own (-1)).setShare m.frm true).setShare k.e.asks true).waits ≤ 4
      rw [t5, s5]; exact (show (0 : Int) ≤ 0 ∧ (0 : Int) ≤ 4 by decide)
    · have hy : y ∈ (((({ k.e with waits := 0 } : En).own (-1)).setShare m.frm true).setShare k.e.asks true).q := hy
      rw [t7, s7] at hy; exact hy
    · have e : (((({ k.e with waits := 0 } : En).own (-1)).setShare m.frm true).setShare k.e.asks true).busy = false := e
      rw [t2, s2] at e
      have e : k.e.busy = false := e
      rw [hb] at e; cases e
    · show (((({ k.e with waits := 0 } : En).own (-1)).setShare m.frm true).setShare k.e.asks true).q.length ≤ _
      rw [t7, s7]; exact Nat.le_succ _
    · simp [WkS.send]
theorem Took.ack {k : WkS} {x : Int} {m : Ms} (h : EnOk k.e x) (hm : k.e.mayAck m = true) : Took k (k.ack m) x 4 := by
  simp only [En.mayAck, Bool.and_eq_true, decide_eq_true_eq] at hm
  obtain ⟨⟨⟨⟨hb, hw⟩, ho⟩, hs⟩, hf⟩ := hm
  obtain ⟨a1, a2, a3⟩ := h.w.asks hb
  obtain ⟨s1, s2, s3, s4, s5, s6, s7⟩ := En.setShare_parts k.e m.frm false
  have hbz : ∀ {b : Bool}, b = k.e.busy → b = false → False := fun h1 h2 => by rw [h1, hb] at h2; cases h2
  have hto : k.e.told = false := by
    cases ht : k.e.told with
    | false => rfl
    | true => have := h.w.told ht; omega
  unfold WkS.ack
  split
  · rename_i hz
    have hk : (0 ≤ (k.e.setShare m.frm false).asks ∧ (k.e.setShare m.frm false).asks < 4 ∧ ((k.e.setShare m.frm false).kind = 1 ∨ (k.e.setShare m.frm false).kind = 2)) := by rw [s3, s4]; exact ⟨a1, a2, a3⟩
    refine ⟨⟨⟨.inr ⟨hk.1, hk.2.1⟩, fun _ => ⟨rfl, rfl, rfl, rfl⟩, fun e => (hbz s2 e).elim, fun _ => hk, fun _ => hz, fun h => absurd hz h, ?_, fun y hy => h.w.q y ?_⟩, fun e => (hbz s2 e).elim⟩, ?_, rfl, rfl, ?_⟩
    · show 0 ≤ k.e.waits - 1 ∧ k.e.waits - 1 ≤ 4
      have := h.w.nn
      omega
    · have hy : y ∈ (k.e.setShare m.frm false).q := hy
      rw [s7] at hy; exact hy
    · show (k.e.setShare m.frm false).q.length ≤ _
      rw [s7]; exact Nat.le_succ _
    · rw [(WkS.write_parts _).2.2.2]; show k.out.length + 1 ≤ _; omega
  · rename_i hz
    refine ⟨⟨⟨?_, fun e => ?_, fun e => (hbz s2 e).elim, fun _ => ?_, fun e => ?_, fun _ => ?_, ?_, fun y hy => h.w.q y ?_⟩, fun e => (hbz s2 e).elim⟩, ?_, rfl, rfl, by simp⟩
    · show (k.e.setShare m.frm false).owner = -1 ∨ (0 ≤ (k.e.setShare m.frm false).owner ∧ (k.e.setShare m.frm false).owner < 4)
      rw [s1]; exact h.w.own
    · have e : 0 ≤ (k.e.setShare m.frm false).owner := e
      rw [s1] at e; omega
    · show 0 ≤ (k.e.setShare m.frm false).asks ∧ (k.e.setShare m.frm false).asks < 4 ∧ ((k.e.setShare m.frm false).kind = 1 ∨ (k.e.setShare m.frm false).kind = 2)
      rw [s3, s4]; exact ⟨a1, a2, a3⟩
    · have e : (k.e.setShare m.frm false).told = true := e
      rw [s6, hto] at e; cases e
    · show (k.e.setShare m.frm false).owner ≠ (k.e.setShare m.frm false).asks
      rw [s1, s3]; omega
    · show 0 ≤ k.e.waits - 1 ∧ k.e.waits - 1 ≤ 4
      have := h.w.nn
      omega
    · have hy : y ∈ (k.e.setShare m.frm false).q := hy
      rw [s7] at hy; exact hy
    · show (k.e.setShare m.frm false).q.length ≤ _
      rw [s7]; exact Nat.le_succ _
end Go
