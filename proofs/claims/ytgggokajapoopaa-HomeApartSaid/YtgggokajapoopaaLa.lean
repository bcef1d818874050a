import Derived.Test.YtgggokajapoopaaBase
/- The line of a cache as a plain record, and how it lies in cells. -/
namespace Go
/-- A line: number, state, sixteen bytes. -/
structure Ln where
  num : Int
  st : Int
  bs : List Int
  ok : (0 ≤ num ∧ num < 4294967296) ∧ bs.length = 16 ∧ (∀ b ∈ bs, 0 ≤ b ∧ b < 256)
def Ln.cells (l : Ln) : Array Value := (Value.int .u32 l.num :: Value.int .i64 l.st :: l.bs.map (Value.int .u8)).toArray
@[go_sem] theorem Ln.cells_size (l : Ln) : l.cells.size = 18 := by simp [Ln.cells, l.ok.2.1]
theorem Ln.cells_0 (l : Ln) : l.cells[0]? = some (.int .u32 l.num) := by simp [Ln.cells]
theorem Ln.cells_1 (l : Ln) : l.cells[1]? = some (.int .i64 l.st) := by simp [Ln.cells]
@[go_sem] theorem Ln.cells_get0 (l : Ln) (h : 0 < l.cells.size) : l.cells[0] = .int .u32 l.num := by simp [Ln.cells]
@[go_sem] theorem Ln.cells_get1 (l : Ln) (h : 1 < l.cells.size) : l.cells[1] = .int .i64 l.st := by simp [Ln.cells]
@[go_sem] theorem Ln.okCells (l : Ln) : okCells 18 l.cells = true := by
  simp [Go.okCells, Ln.cells, Value.oneCell', l.ok.2.1]
theorem Ln.ext' {a b : Ln} (h1 : a.num = b.num) (h2 : a.st = b.st) (h3 : a.bs = b.bs) : a = b := by
  cases a; cases b; simp_all
theorem Ln.cells_inj {a b : Ln} (h : a.cells = b.cells) : a = b := by
  unfold Ln.cells at h
  have h' := congrArg Array.toList h
  simp only [List.cons.injEq, Value.int.injEq, true_and] at h'
  refine Ln.ext' h'.1 h'.2.1 ?_
  exact (List.map_inj_right (fun x y hxy => by simpa using hxy)).1 h'.2.2
instance : DecidableEq Ln := fun a b =>
  if h : a.num = b.num ∧ a.st = b.st ∧ a.bs = b.bs then .isTrue (Ln.ext' h.1 h.2.1 h.2.2) else .isFalse (fun e => h (by subst e; simp))
/-- A row of elements of k cells from an address on: element i lies at i * k. -/
def Row {α : Type} (k : Nat) (enc : α → Array Value) (w : World) (a : Option Addr) (L : List α) : Prop :=
  ∀ i x, L[i]? = some x → ∃ b off, a = some ⟨b, off, none⟩ ∧ w.agg? ⟨b, off + i * k, none⟩ k = some (enc x)
theorem World.agg?_lt {w : World} {a : Addr} {n : Nat} {cs : Array Value} (h : w.agg? a n = some cs) : a.block < w.heap.size := by
  obtain ⟨c, t, fr, hh, _⟩ := World.agg?_some h
  exact (Array.getElem?_eq_some_iff.1 hh).1
theorem Row.mono {α : Type} {k : Nat} {enc : α → Array Value} {w w' : World} {a : Option Addr} {L : List α} (h : Row k enc w a L)
    (hw : ∀ b, b < w.heap.size → (∃ off, a = some ⟨b, off, none⟩) → w'.heap[b]? = w.heap[b]?) : Row k enc w' a L := by
  intro i x hx
  obtain ⟨b, off, rfl, hg⟩ := h i x hx
  exact ⟨b, off, rfl, by rw [World.agg?_of_block (hw b (World.agg?_lt hg) ⟨off, rfl⟩)]; exact hg⟩
/-- All that lay lies as it lay. -/
def Ext (w w' : World) : Prop := Go.RowKit.Below w.heap.size w w'
theorem Row.ext {α : Type} {k : Nat} {enc : α → Array Value} {w w' : World} {a : Option Addr} {L : List α} (h : Row k enc w a L) (hw : Ext w w') : Row k enc w' a L :=
  h.mono fun b hb _ => hw.block b hb
/-- The first cell of an element of a row. -/
theorem Row.cell {α : Type} {k : Nat} {enc : α → Array Value} {w : World} {a : Option Addr} {L : List α} (h : Row k enc w a L) {i : Nat} {x : α} (hx : L[i]? = some x) {j : Nat} (hj : j < k) :
    ∃ b off, a = some ⟨b, off, none⟩ ∧ w.cell? ⟨b, off + i * k + j, none⟩ = (enc x)[j]? := by
  obtain ⟨b, off, rfl, hg⟩ := h i x hx
  refine ⟨b, off, rfl, ?_⟩
  rw [← World.agg?_cell hg hj]
  congr 1
  unfold Addr.add; split <;> simp_all
theorem Ext.refl (w : World) : Ext w w := Go.RowKit.Below.refl _ _
theorem Ext.trans {a b c : World} (h : Ext a b) (k : Ext b c) : Ext a c := Go.RowKit.Below.trans h (Go.RowKit.Below.mono k h.size)
theorem Ext.alloc {a w : World} (h : Ext a w) (o : Obj) : Ext a (w.alloc o) := Go.RowKit.Below.alloc h h.size o
theorem Ext.drew {a w : World} (h : Ext a w) : Ext a w.drew := Go.RowKit.Below.drew h
theorem Ext.drewN {a w : World} (h : Ext a w) (n : Nat) : Ext a (w.drewN n) := ⟨h.os, h.tape, h.output, h.size, h.block⟩
theorem Ext.putAgg {a w : World} (h : Ext a w) (p : Addr) (cs : Array Value) (hp : a.heap.size ≤ p.block) : Ext a (w.putAgg p cs) :=
  ⟨h.os, h.tape, h.output, by rw [World.size_putAgg]; exact h.size, fun k hk => by rw [World.putAgg_other _ _ _ (by omega)]; exact h.block k hk⟩
theorem Ext.setCell {a w : World} (h : Ext a w) (p : Addr) (v : Value) (hp : a.heap.size ≤ p.block) : Ext a (w.setCell p v) := Go.RowKit.Below.setCell h hp v
theorem Ext.cell {a w : World} (h : Ext a w) {b o : Nat} (hb : b < a.heap.size) : w.cell? ⟨b, o, none⟩ = a.cell? ⟨b, o, none⟩ := Go.RowKit.Below.cell h (p := ⟨b, o, none⟩) hb
theorem Ext.agg {a w : World} (h : Ext a w) {b o n : Nat} (hb : b < a.heap.size) : w.agg? ⟨b, o, none⟩ n = a.agg? ⟨b, o, none⟩ n := World.agg?_of_block (h.block b hb)
theorem Ext.lt {a w : World} (h : Ext a w) {b : Nat} (hb : b < a.heap.size) : b < w.heap.size := Nat.lt_of_lt_of_le hb h.size
theorem World.loose_of_block {w w' : World} {b : Nat} (h : w'.heap[b]? = w.heap[b]?) : w'.loose b = w.loose b := by
  simp only [World.loose, h]
/-- What a call that only makes memory leaves: all old cells and marks read as before. -/
theorem Ext.rules {W w1 : World} (hb : Ext W w1) : (∀ b o, b < W.heap.size → w1.cell? ⟨b, o, none⟩ = W.cell? ⟨b, o, none⟩) ∧ (∀ b o, b < W.heap.size → w1.frozen? ⟨b, o, none⟩ = W.frozen? ⟨b, o, none⟩) ∧
    (∀ b o n, b < W.heap.size → w1.agg? ⟨b, o, none⟩ n = W.agg? ⟨b, o, none⟩ n) ∧ (∀ b, b < W.heap.size → w1.loose b = W.loose b) ∧ W.heap.size ≤ w1.heap.size :=
  ⟨fun b o h => Go.RowKit.Below.cell hb (p := ⟨b, o, none⟩) h, fun b o h => Go.RowKit.Below.frozen hb (p := ⟨b, o, none⟩) h, fun _ _ _ h => hb.agg h, fun b h => World.loose_of_block (hb.block b h), hb.size⟩
/-- Where a number stands in a list of lines; -1: nowhere. -/
def idxOf (n : Int) (L : List Ln) : Int := match L.findIdx? (·.num == n) with | some i => (i : Int) | none => -1
end Go
/- Walks: the functions of package lines. -/
namespace Go.Proofs
open Go.RowKit
@[go_sem ↓] theorem Try.loadVar39 (a : Addr) : loadVar 39 a = loadAgg 39 a := rfl
@[go_sem] theorem Try.loadAgg39 (w : World) (a : Addr) : (loadAgg 39 a).run Try.prog w = aggRes (w.agg? a 18) (loadSlow Try.prog 39 a w) w :=
  run_loadAgg 39 18 Try.isAgg39 Try.sizeOf39 w a
@[go_sem ↓] theorem Try.storeVar39 (a : Addr) (v : Value) : storeVar 39 a v = storeAgg 39 a v := rfl
@[go_sem] theorem Try.storeAgg39 (w : World) (a : Addr) (cs : Array Value) : (storeAgg 39 a (.agg cs)).run Try.prog w = storeRes ((w.agg? a 18).isSome && w.loose a.block && okCells 18 cs) (.ok () (w.putAgg a cs)) (storeSlow Try.prog 39 a (.agg cs) w) :=
  run_storeAgg 39 18 Try.sizeOf39 w a cs
set_option maxHeartbeats 400000 in
theorem none_nil (w : World) :
    Calls Try.prog 87 #[.pointer none] w fun e w' => e = .returned (.bool true) ∧ w = w' := by
  go_enter Try.func87, Try.ntmps87
  go_wp2
  go_ret
  exact ⟨rfl, rfl⟩
set_option maxHeartbeats 400000 in
theorem none_some (b : Nat) (ways : Int) (w : World) (h0 : w.cell? ⟨b, 1, none⟩ = some (.int .i64 ways)) :
    Calls Try.prog 87 #[.pointer (some ⟨b, 0, none⟩)] w fun e w' => e = .returned (.bool (ways == 0)) ∧ w = w' := by
  go_enter Try.func87, Try.ntmps87
  go_wp2
  go_ret
  exact ⟨rfl, rfl⟩
set_option maxHeartbeats 400000 in
/-- The closure that tells whether a line has a number. -/
theorem has_num (l : Ln) (B : Nat) (n : Int) (w : World) (hB : B < w.heap.size) (hb : w.cell? ⟨B, 0, none⟩ = some (.int .u32 n)) :
    Calls Try.prog 139 #[.agg l.cells, .pointer (some ⟨B, 0, none⟩)] w fun e w' => e = .returned (.bool (l.num == n)) ∧ Ext w w' := by
  go_enter Try.func139, Try.ntmps139
  go_wp2
  go_ret
  exact ⟨rfl, (Below.refl _ _).alloc (Nat.le_refl _) _⟩
theorem idxOf_stop (n : Int) (L : List Ln) (k : Nat) (x : Ln) (hx : L[k]? = some x) (h : x.num = n) (hp : ∀ i y, i < k → L[i]? = some y → y.num ≠ n) : idxOf n L = k := by
  unfold idxOf
  have : L.findIdx? (·.num == n) = some k := by
    rw [List.findIdx?_eq_some_iff_getElem]
    have hk := (List.getElem?_eq_some_iff.1 hx)
    obtain ⟨hk, he⟩ := hk
    refine ⟨hk, by simp [he, h], fun j hj => ?_⟩
    have := hp j L[j] hj (by simp)
    simpa using this
  rw [this]
theorem idxOf_none (n : Int) (L : List Ln) (hp : ∀ i y, i < L.length → L[i]? = some y → y.num ≠ n) : idxOf n L = -1 := by
  unfold idxOf
  have : L.findIdx? (·.num == n) = none := by
    rw [List.findIdx?_eq_none_iff]
    intro x hx
    obtain ⟨i, hi, rfl⟩ := List.getElem_of_mem hx
    simpa using hp i _ hi (by simp)
  rw [this]
set_option maxHeartbeats 400000 in
/-- slices.IndexFunc over lines, asked by the closure of 'of'. -/
theorem index_func (L : List Ln) (a : Option Addr) (cap : Nat) (B : Nat) (n : Int) (w : World) (hB : B < w.heap.size) (hb : w.cell? ⟨B, 0, none⟩ = some (.int .u32 n))
    (hL : Row 18 Ln.cells w a L) (hlen : L.length ≤ 1000) :
    Calls Try.prog 138 #[.slice a L.length cap, .func (.func 139) #[] #[.pointer (some ⟨B, 0, none⟩)]] w fun e w' => e = .returned (.int .i64 (idxOf n L)) ∧ Ext w w' := by
  go_enter Try.func138, Try.ntmps138
  go_wp2
  go_loopw [5, 8] (fun _ i wr => ∃ k : Nat, k ≤ L.length ∧ i = .int .i64 k ∧ (∀ i y, i < k → L[i]? = some y → y.num ≠ n) ∧ Ext w wr) (fun _ i _ => L.length - (intOf i).toNat)
  case atStart => exact ⟨0, Nat.zero_le _, rfl, fun i y h => absurd h (Nat.not_lt_zero _), Below.refl _ _⟩
  case round =>
    obtain ⟨k, hk, rfl, hp, hE⟩ := hrel
    by_cases hlt : k < L.length
    · obtain ⟨x, hx⟩ : ∃ x, L[k]? = some x := ⟨L[k], by simp [hlt]⟩
      obtain ⟨b, off, rfl, hg⟩ := (hL.ext hE) k x hx
      have hb' : wr.cell? ⟨B, 0, none⟩ = some (.int .u32 n) := (hE.cell hB).trans hb
      have hB' : B < wr.heap.size := Nat.lt_of_lt_of_le hB hE.size
      by_cases hq : x.num = n
      · have HC : Hid (idxOf n L = k) := idxOf_stop n L k x hx hq hp
        have hq' : (x.num == n) = true := by simp [hq]
        clear hp hq hx hL
        go_wp2_with (go_at_call 139; refine (has_num x B n _ hB' hb').mono ?_; rintro e w1 ⟨rfl, hE1⟩)
        go_ret
        exact ⟨ret_int HC.out.symm, hE.trans hE1⟩
      · have hq' : (x.num == n) = false := by simp [hq]
        have HP : Hid (∀ i y, i < k + 1 → L[i]? = some y → y.num ≠ n) := fun i y hi hy => by
          rcases Nat.lt_succ_iff_lt_or_eq.1 hi with h | rfl
          · exact hp i y h hy
          · rw [hx] at hy; cases hy; exact hq
        clear hp hq hx hL
        go_wp2_with (go_at_call 139; refine (has_num x B n _ hB' hb').mono ?_; rintro e w1 ⟨rfl, hE1⟩)
        go_roundw
        case rel => exact ⟨k + 1, by omega, by go_num, HP.out, hE.trans hE1⟩
        case measure => simp [intOf]; omega
    · have HC : Hid (idxOf n L = -1) := idxOf_none n L (fun i y hi => hp i y (by omega))
      clear hp hL
      go_wp2_with fail
      go_ret
      exact ⟨ret_int HC.out.symm, hE⟩
end Go.Proofs
/- Walks: the functions of package lines. -/
namespace Go.Proofs
open Go.RowKit
theorem wrap_u32_of {k : Int} (h0 : 0 ≤ k) (h1 : k < 4294967296) : IntKind.u32.wrap k = k := by
  simp [IntKind.wrap, IntKind.bits, IntKind.signed]
  omega
set_option maxHeartbeats 400000 in
theorem of_any (B S k : Nat) (n : Int) (a : Option Addr) (cap : Nat) (L : List Ln) (w : World) 
   (h0 : w.cell? ⟨B, 0, none⟩ = some (.slice (some ⟨S, 0, none⟩) k k)) (hk : 1 ≤ k) (hk' : k ≤ 64) (hn : 0 ≤ n) (hn' : n < 4294967296) 
   (h1 : w.cell? ⟨S, (n % k).toNat, none⟩ = some (.slice a L.length cap)) (hL : Row 18 Ln.cells w a L) (hlen : L.length ≤ 1000) :
    Calls Try.prog 88 #[.pointer (some ⟨B, 0, none⟩), .int .u32 n] w fun e w' => e = .returned (.tuple #[.pointer (some ⟨S, (n % k).toNat, none⟩), .int .i64 (idxOf n L)]) ∧ Ext w w' := by
  have hb : B < w.heap.size := World.block_lt_of_cell? w _ h0
  have hs : S < w.heap.size := World.block_lt_of_cell? w _ h1
  have hw : IntKind.u32.wrap (k : Int) = k := wrap_u32_of (by omega) (by omega)
  have hm0 : (0 : Int) ≤ n % k := Int.emod_nonneg _ (by omega)
  have hm1 : n % (k : Int) < k := Int.emod_lt_of_pos _ (by omega)
  go_enter Try.func88, Try.ntmps88
  go_wp2_with fail
  go_quiet (fail)
  go_wp2_with fail
  refine (index_func L a cap w.heap.size n _ (by simp) (by simp [go_sem]) (hL.ext (((Ext.refl w).alloc _).drewN nq)) hlen).mono ?_
  rintro e w1 ⟨rfl, hE1⟩
  go_wp2_with fail
  go_ret2
  exact ⟨rfl, (((Ext.refl w).alloc _).drewN nq).trans hE1⟩
end Go.Proofs
