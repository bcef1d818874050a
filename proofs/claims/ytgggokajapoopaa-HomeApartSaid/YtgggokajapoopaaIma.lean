import Derived.Test.YtgggokajapoopaaMs
import Derived.WalkLawsBesides
/- Images: bytes, sixteen by sixteen, and how they lie; package image, walked. -/
namespace Go
open Go.RowKit
def copyRes (b : Bool) (x y : Result Value) : Result Value := if b then x else y
@[go_sem] theorem copyRes_true (x y : Result Value) : copyRes true x y = x := rfl
def copySlow (P : Program) (ts : Array TypeId) (ty : TypeId) (d s : Value) (w : World) : Result Value := (Builtin.copy_ ts ty #[d, s]).run P w
/-- Bytes of a slice: sixteen cells of one byte each line. -/
abbrev BytesAt (w : World) (v : Value) (ls : List B16) (o : Option Nat) : Prop :=
  (ls = [] ∧ o = none ∧ ∃ a, v = .slice a 0 0) ∨
  (∃ g cap cur, o = some g ∧ v = .slice (some ⟨g, 0, none⟩) (16 * ls.length) cap ∧ w.heap[g]? = some (.cells cur 5 (0, 0)) ∧ 16 * ls.length ≤ cap ∧ cap ≤ maxLen ∧ cur.size = cap ∧ cur.toList.take (16 * ls.length) = flat B16.cells ls)
theorem BytesAt.keep {w w' : World} {v : Value} {ls : List B16} {o : Option Nat} (h : BytesAt w v ls o) (hk : ∀ b, o = some b → w'.heap[b]? = w.heap[b]?) : BytesAt w' v ls o := by
  rcases h with h | ⟨g, cap, cur, ho, hv, hg, rest⟩
  · exact .inl h
  · exact .inr ⟨g, cap, cur, ho, hv, by rw [hk g ho]; exact hg, rest⟩
theorem BytesAt.lt {w : World} {v : Value} {ls : List B16} {o : Option Nat} (h : BytesAt w v ls o) {g : Nat} (hg : o = some g) : g < w.heap.size := by
  rcases h with ⟨_, h, _⟩ | ⟨g', cap, cur, ho, hv, hh, rest⟩
  · rw [hg] at h; cases h
  · rw [hg] at ho; cases ho; exact (Array.getElem?_eq_some_iff.1 hh).1
theorem BytesAt.ext {w w' : World} {v : Value} {ls : List B16} {o : Option Nat} (h : BytesAt w v ls o) (hw : Ext w w') : BytesAt w' v ls o := h.keep fun b hb => hw.block b (h.lt hb)
/-- Line i of bytes. -/
theorem flat_line {ls : List B16} {i : Nat} {x : B16} (h : ls[i]? = some x) : ((flat B16.cells ls).drop (16 * i)).take 16 = x.cells.toList := by
  have := List.take_drop_flat (fun x : B16 => x.cells.toList) 16 (fun a => by simpa using B16.cells_size a) ls i x h
  rw [Nat.mul_comm] at this
  exact this
theorem BytesAt.line {w : World} {v : Value} {ls : List B16} {g : Nat} (h : BytesAt w v ls (some g)) {i : Nat} {x : B16} (hx : ls[i]? = some x) : w.agg? ⟨g, 16 * i, none⟩ 16 = some x.cells := by
  rcases h with ⟨_, h, _⟩ | ⟨g', cap, cur, ho, hv, hh, hle, hcm, hs, htake⟩
  · cases h
  · cases ho
    have hil := (List.getElem?_eq_some_iff.1 hx).1
    have hfit : 16 * i + 16 ≤ cur.size := by omega
    unfold World.agg?
    simp only [hh, Option.isSome_none, Bool.false_eq_true, if_false]
    rw [if_pos hfit]
    congr 1
    apply Array.ext'
    rw [Array.toList_extract, List.extract_eq_take_drop]
    have h1 := flat_line hx
    rw [← htake, List.drop_take, List.take_take] at h1
    rw [show 16 * i + 16 - 16 * i = 16 from by omega, ← h1]
    congr 1
    omega
theorem B16_length_flat (ls : List B16) : (flat B16.cells ls).length = 16 * ls.length := by rw [length_flat (k := 16) B16.okCells, Nat.mul_comm]
/-- Bytes with another line. -/
theorem BytesAt.put {w : World} {v : Value} {ls : List B16} {g : Nat} (h : BytesAt w v ls (some g)) {i : Nat} (hi : i < ls.length) (x : B16) : BytesAt (w.putAgg ⟨g, 16 * i, none⟩ x.cells) v (ls.set i x) (some g) := by
  rcases h with ⟨_, h, _⟩ | ⟨g', cap, cur, ho, hv, hh, hle, hcm, hs, htake⟩
  · cases h
  · cases ho
    refine .inr ⟨g, cap, splice cur (16 * i) x.cells, rfl, by simpa using hv, World.putAgg_heap hh, by simpa using hle, hcm, ?_, ?_⟩
    · rw [size_splice _ _ _ (by rw [B16.cells_size]; omega)]; exact hs
    · have := splice_flat (k := 16) B16.okCells (cur := cur) (L := ls) (by rw [Nat.mul_comm]; exact htake) hi x
      rw [Nat.mul_comm i 16] at this
      rw [Nat.mul_comm 16]
      exact this
end Go
namespace Go.Proofs
open Go.RowKit
set_option maxRecDepth 100000 in
theorem run_copy_agg (ts : Array TypeId) (hts : ts = #[69, 69]) (ty : TypeId) (w : World) (d s : Addr) (n dc sc : Nat) (cs : Array Value) (hs : w.agg? s n = some cs) (hd : (w.agg? d n).isSome = true) (hl : w.loose d.block = true) (hc : okCells n cs = true) :
    (Builtin.copy_ ts ty #[.slice (some d) n dc, .slice (some s) n sc]).run Try.prog w = .ok (.int .i64 n) (w.putAgg d cs) := by
  subst hts
  obtain ⟨old, ho⟩ := Option.isSome_iff_exists.1 hd
  obtain ⟨c, t, fr, hh, hsp, hle, _⟩ := World.agg?_some ho
  have hsz := World.agg?_size hs
  have hfr : fr = (0, 0) := by
    unfold World.loose at hl
    rw [hh] at hl
    simpa using hl
  subst hfr
  obtain ⟨b, o, sp⟩ := d
  simp only at hsp hh hle
  subst hsp
  have hin : (Try.prog.info? 5).map (·.size) = some 1 := by kernel_rfl
  rw [run_copy_row Try.prog w 69 69 ty 5 b o n dc s n sc c t cs.toList Try.underlying69 hin hh (by simp [hsz]) (fun j v hv => by
    have hj : j < n := by have := (List.getElem?_eq_some_iff.1 hv).1; simp at this; omega
    rw [World.agg?_cell hs hj]; simpa using hv) (by simp [hsz]; omega) (fun v hv => okCells_one hc v (by simpa using hv))]
  rw [World.putAgg_setRow hh]
  simp [goInt, hsz, splice]
set_option maxRecDepth 100000 in
@[go_sem ↓ high] theorem Try.copy69 (ty : TypeId) (w : World) (d s : Addr) (n dc sc : Nat) :
    (Builtin.copy_ #[69, 69] ty #[.slice (some d) n dc, .slice (some s) n sc]).run Try.prog w = copyRes ((w.agg? s n).any (okCells n) && (w.agg? d n).isSome && w.loose d.block) (.ok (.int .i64 n) (w.putAgg d ((w.agg? s n).getD #[]))) (copySlow Try.prog #[69, 69] ty (.slice (some d) n dc) (.slice (some s) n sc) w) := by
  cases h : ((w.agg? s n).any (okCells n) && (w.agg? d n).isSome && w.loose d.block) with
  | false => rfl
  | true =>
    simp only [Bool.and_eq_true] at h
    obtain ⟨⟨h1, h2⟩, h3⟩ := h
    cases hs : w.agg? s n with
    | none => rw [hs] at h1; cases h1
    | some cs =>
      rw [hs] at h1
      rw [run_copy_agg _ rfl ty w d s n dc sc cs hs h2 h3 (by simpa using h1)]
      rfl
/-- An image behind p: its block, its bytes' block, its lines. -/
structure ImgAt (w : World) (p : Value) (ls : List B16) (ib bb : Nat) : Prop where
  p : p = .pointer (some ⟨ib, 0, none⟩)
  hI : ∃ v, w.heap[ib]? = some (.cells #[v] 206 (0, 0)) ∧ BytesAt w v ls (some bb)
  ne : ib ≠ bb
  len : 1 ≤ ls.length ∧ ls.length ≤ 256
theorem ImgAt.keep {w w' : World} {p : Value} {ls : List B16} {ib bb : Nat} (h : ImgAt w p ls ib bb) (hk : ∀ b, b = ib ∨ b = bb → w'.heap[b]? = w.heap[b]?) : ImgAt w' p ls ib bb := by
  obtain ⟨h1, ⟨v, h2, h3⟩, h4, h5⟩ := h
  exact ⟨h1, ⟨v, (hk _ (.inl rfl)).trans h2, h3.keep fun b hb => hk b (.inr (by cases hb; rfl))⟩, h4, h5⟩
theorem ImgAt.lt {w : World} {p : Value} {ls : List B16} {ib bb : Nat} (h : ImgAt w p ls ib bb) : ib < w.heap.size ∧ bb < w.heap.size := by
  obtain ⟨h1, ⟨v, h2, h3⟩, h4, h5⟩ := h
  exact ⟨(Array.getElem?_eq_some_iff.1 h2).1, h3.lt rfl⟩
theorem ImgAt.ext {w w' : World} {p : Value} {ls : List B16} {ib bb : Nat} (h : ImgAt w p ls ib bb) (hE : Ext w w') : ImgAt w' p ls ib bb :=
  h.keep fun b hb => hE.block b (by rcases hb with rfl | rfl; exact h.lt.1; exact h.lt.2)
/-- What a walk asks of an image. -/
theorem ImgAt.facts {w : World} {p : Value} {ls : List B16} {ib bb : Nat} (h : ImgAt w p ls ib bb) : ∃ cap, w.cell? ⟨ib, 0, none⟩ = some (.slice (some ⟨bb, 0, none⟩) (16 * ls.length) cap) ∧ 16 * ls.length ≤ cap ∧ ib < w.heap.size ∧ bb < w.heap.size ∧ w.loose bb = true := by
  have hl := h.lt
  obtain ⟨h1, ⟨v, h2, h3⟩, h4, h5⟩ := h
  rcases h3 with ⟨_, h, _⟩ | ⟨g', cap, cur, ho, hv, hh, hle, hcm, hs, htake⟩
  · cases h
  · cases ho
    refine ⟨cap, by rw [cell_of_row w ib 0 _ 206 (0, 0) h2, hv]; rfl, hle, hl.1, hl.2, ?_⟩
    simp [World.loose, hh]
theorem ImgAt.line {w : World} {p : Value} {ls : List B16} {ib bb : Nat} (h : ImgAt w p ls ib bb) {i : Nat} {x : B16} (hx : ls[i]? = some x) : w.agg? ⟨bb, 16 * i, none⟩ 16 = some x.cells := by
  obtain ⟨h1, ⟨v, h2, h3⟩, h4, h5⟩ := h
  exact h3.line hx
theorem ImgAt.put {w : World} {p : Value} {ls : List B16} {ib bb : Nat} (h : ImgAt w p ls ib bb) {i : Nat} (hi : i < ls.length) (x : B16) : ImgAt (w.putAgg ⟨bb, 16 * i, none⟩ x.cells) p (ls.set i x) ib bb := by
  obtain ⟨h1, ⟨v, h2, h3⟩, h4, h5⟩ := h
  exact ⟨h1, ⟨v, (w.putAgg_other _ _ (by simpa using h4)).trans h2, h3.put hi x⟩, h4, by simpa using h5⟩
set_option maxRecDepth 100000 in
set_option maxHeartbeats 400000 in
theorem imgNone_nil (w : World) : Calls Try.prog 149 #[.pointer none] w fun e w' => e = .returned (.bool true) ∧ w = w' := by
  go_enter Try.func149, Try.ntmps149
  go_wp2_with fail
  go_ret
  exact ⟨rfl, rfl⟩
@[go_sem] theorem Try.eql_nil69 (w : World) (a : Option Addr) (n c : Nat) : (binOp .eql 69 (.slice a n c) (.slice none 0 0)).run Try.prog w = .ok (.bool a.isNone) w := by
  exact Lib.run_eql_slice_nil w 69 5 a n c 0 0 Try.underlying69
set_option maxRecDepth 100000 in
set_option maxHeartbeats 400000 in
theorem imgNone_any (w : World) (p : Value) (ls : List B16) (ib bb : Nat) (h : ImgAt w p ls ib bb) : Calls Try.prog 149 #[p] w fun e w' => e = .returned (.bool false) ∧ w = w' := by
  obtain ⟨cap, hc, -⟩ := h.facts
  obtain ⟨rfl, -, -, -⟩ := h
  go_enter Try.func149, Try.ntmps149
  go_wp2_with fail
  go_ret
  exact ⟨rfl, rfl⟩
set_option maxRecDepth 100000 in
set_option maxHeartbeats 400000 in
theorem size_any (w : World) (p : Value) (ls : List B16) (ib bb : Nat) (h : ImgAt w p ls ib bb) : Calls Try.prog 100 #[p] w fun e w' => e = .returned (.int .i64 ((16 * ls.length : Nat) : Int)) ∧ w = w' := by
  obtain ⟨cap, hc, -⟩ := h.facts
  obtain ⟨rfl, -, -, -⟩ := h
  go_enter Try.func100, Try.ntmps100
  go_wp2_with fail
  go_ret
  exact ⟨rfl, rfl⟩
end Go.Proofs
/- Package image, walked: a line's bytes, told and set. -/
namespace Go.Proofs
open Go.RowKit
set_option maxRecDepth 100000 in
set_option maxHeartbeats 400000 in
theorem get1_any (ob bb at_ : Nat) (x : B16) (w : World) (hs : w.agg? ⟨bb, at_, none⟩ 16 = some x.cells) (ho : ∃ y, w.agg? ⟨ob, 0, none⟩ 16 = some y) (hl : w.loose ob = true) :
    Calls Try.prog 165 #[.slice (some ⟨bb, at_, none⟩) 16 16, .pointer (some ⟨ob, 0, none⟩)] w fun e w' => e = .returned (.tuple #[]) ∧ w.putAgg ⟨ob, 0, none⟩ x.cells = w' := by
  obtain ⟨y, hy⟩ := ho
  go_enter Try.func165, Try.ntmps165
  go_wp2_with fail
  go_end0
  exact ⟨rfl, rfl⟩
set_option maxRecDepth 100000 in
set_option maxHeartbeats 400000 in
theorem set1_any (ob bb at_ : Nat) (x : B16) (w : World) (hs : w.agg? ⟨ob, 0, none⟩ 16 = some x.cells) (ho : ∃ y, w.agg? ⟨bb, at_, none⟩ 16 = some y) (hl : w.loose bb = true) :
    Calls Try.prog 160 #[.slice (some ⟨bb, at_, none⟩) 16 16, .pointer (some ⟨ob, 0, none⟩)] w fun e w' => e = .returned (.tuple #[]) ∧ w.putAgg ⟨bb, at_, none⟩ x.cells = w' := by
  obtain ⟨y, hy⟩ := ho
  go_enter Try.func160, Try.ntmps160
  go_wp2_with fail
  go_end0
  exact ⟨rfl, rfl⟩
set_option maxRecDepth 100000 in
set_option maxHeartbeats 400000 in
theorem line_get (p : Value) (ls : List B16) (ib bb ob i : Nat) (x : B16) (w : World) (h : ImgAt w p ls ib bb) (hx : ls[i]? = some x) (ho : ∃ y, w.agg? ⟨ob, 0, none⟩ 16 = some y) (hl : w.loose ob = true) :
    Calls Try.prog 159 #[p, .int .u32 i, .func (.func 165) #[] #[.pointer (some ⟨ob, 0, none⟩)]] w fun e w' => e = .returned (.int .i64 0) ∧ w.putAgg ⟨ob, 0, none⟩ x.cells = w' := by
  obtain ⟨cap, hc, hcap, hib, hbb, hlo⟩ := h.facts
  have hln := h.line hx
  have hil : i < ls.length := (List.getElem?_eq_some_iff.1 hx).1
  have h256 := h.len.2
  have H := Lib.hid h
  obtain ⟨pa, rfl⟩ : ∃ pa, p = .pointer pa := ⟨_, h.p⟩
  cases h.p
  have HLN := Lib.hid hln
  have HO := Lib.hid ho
  clear h hx hln ho
  go_enter Try.func159, Try.ntmps159
  go_wp2_with fail
  refine (imgNone_any _ _ _ _ _ H.out).mono ?_
  rintro e w1 ⟨rfl, rfl⟩
  go_wp2_with fail
  refine (get1_any ob bb (i * 16) x _ (by rw [Nat.mul_comm]; exact HLN.out) HO.out hl).mono ?_
  rintro e w2 ⟨rfl, rfl⟩
  go_wp2_with fail
  go_ret
  exact ⟨rfl, rfl⟩
set_option maxRecDepth 100000 in
set_option maxHeartbeats 400000 in
theorem line_set (p : Value) (ls : List B16) (ib bb ob i : Nat) (x : B16) (w : World) (h : ImgAt w p ls ib bb) (hil : i < ls.length) (ho : w.agg? ⟨ob, 0, none⟩ 16 = some x.cells) :
    Calls Try.prog 159 #[p, .int .u32 i, .func (.func 160) #[] #[.pointer (some ⟨ob, 0, none⟩)]] w fun e w' => e = .returned (.int .i64 0) ∧ w.putAgg ⟨bb, 16 * i, none⟩ x.cells = w' := by
  obtain ⟨cap, hc, hcap, hib, hbb, hlo⟩ := h.facts
  have hln := h.line (List.getElem?_eq_getElem hil)
  have h256 := h.len.2
  have H := Lib.hid h
  obtain ⟨pa, rfl⟩ : ∃ pa, p = .pointer pa := ⟨_, h.p⟩
  cases h.p
  have HLN := Lib.hid hln
  have HO := Lib.hid ho
  clear h hln ho
  go_enter Try.func159, Try.ntmps159
  go_wp2_with fail
  refine (imgNone_any _ _ _ _ _ H.out).mono ?_
  rintro e w1 ⟨rfl, rfl⟩
  go_wp2_with fail
  refine (set1_any ob bb (i * 16) x _ HO.out ⟨_, by rw [Nat.mul_comm]; exact HLN.out⟩ hlo).mono ?_
  rintro e w2 ⟨rfl, rfl⟩
  go_wp2_with fail
  go_ret
  exact ⟨rfl, by rw [Nat.mul_comm]⟩
set_option maxRecDepth 100000 in
set_option maxHeartbeats 400000 in
/-- Line: a line's bytes. -/
theorem imgLine_any (p : Value) (ls : List B16) (ib bb i : Nat) (x : B16) (w : World) (h : ImgAt w p ls ib bb) (hx : ls[i]? = some x) :
    Calls Try.prog 161 #[p, .int .u32 i] w fun e w' => e = .returned (.tuple #[.agg x.cells, .int .i64 0]) ∧ Ext w w' := by
  have H := Lib.hid h
  have HX := Lib.hid hx
  obtain ⟨pa, rfl⟩ : ∃ pa, p = .pointer pa := ⟨_, h.p⟩
  clear h hx
  go_enter Try.func161, Try.ntmps161
  go_wp2_with fail
  refine (line_get _ ls ib bb (w.heap.size + 1) i x _ (H.out.ext (((Ext.refl w).alloc _).alloc _)) HX.out ⟨_, World.agg?_alloc_at _ _ _ _ _ (by simp) (B16.cells_size _)⟩ (World.loose_alloc_at _ _ _ _ (by simp))).mono ?_
  rintro e w1 ⟨rfl, rfl⟩
  go_wp2_with fail
  refine bodyPost_ret (resCT rfl _ _ ⟨w.heap.size, 0, none⟩ (.agg x.cells) rfl (run_loadVar_agg 37 16 Try.isAgg37 Try.sizeOf37 _ _ _ (by simp [go_sem]))) rfl ⟨rfl, ?_⟩
  first
    | exact ((Ext.refl w).alloc _).alloc _
    | exact ((((Ext.refl w).alloc _).alloc _).putAgg _ _ (by simp)).putAgg _ _ (Nat.le_refl _)
set_option maxRecDepth 100000 in
set_option maxHeartbeats 400000 in
/-- SetLine: a line's bytes anew. -/
theorem imgSet_any (p : Value) (ls : List B16) (ib bb i : Nat) (x : B16) (w : World) (h : ImgAt w p ls ib bb) (hi : i < ls.length) :
    Calls Try.prog 144 #[p, .int .u32 i, .agg x.cells] w fun e w' => e = .returned (.int .i64 0) ∧ ImgAt w' p (ls.set i x) ib bb ∧ Chg (fun b => b = bb) w w' := by
  have H := Lib.hid h
  obtain ⟨pa, rfl⟩ : ∃ pa, p = .pointer pa := ⟨_, h.p⟩
  have hbb := h.lt.2
  clear h
  go_enter Try.func144, Try.ntmps144
  go_wp2_with fail
  refine (line_set _ ls ib bb w.heap.size i x _ (H.out.ext ((Ext.refl w).alloc _)) hi (World.agg?_alloc_at _ _ _ _ _ rfl (B16.cells_size _))).mono ?_
  rintro e w1 ⟨rfl, rfl⟩
  go_wp2_with fail
  go_ret
  refine ⟨rfl, (H.out.put hi x).ext ((Ext.refl _).alloc _), ?_⟩
  refine ⟨rfl, rfl, rfl, by simp, fun k hk hn => ?_⟩
  exact (Below.heap_alloc _ _ _ (by simpa using hk)).trans (World.putAgg_other _ _ _ hn)
end Go.Proofs
