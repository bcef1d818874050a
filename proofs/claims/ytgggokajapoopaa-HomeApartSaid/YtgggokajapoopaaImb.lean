import Derived.Test.YtgggokajapoopaaIma
import Derived.Test.YtgggokajapoopaaNil
/- Package image, walked: New, Of, Bytes, Copy. -/
namespace Go
open Go.RowKit
def encB (x : Int) : Array Value := #[.int .u8 x]
theorem encB_ok (x : Int) : okCells 1 (encB x) = true := by simp [okCells, encB, Value.oneCell']
def bytesOf (ls : List B16) : List Int := ls.flatMap (·.bs)
theorem length_bytesOf (ls : List B16) : (bytesOf ls).length = 16 * ls.length := by
  induction ls with
  | nil => rfl
  | cons a l ih =>
    simp only [bytesOf, List.flatMap_cons, List.length_append, List.length_cons] at ih ⊢
    rw [ih, a.ok.1]; omega
theorem flat_encB (L : List Int) : flat encB L = L.map (.int .u8) := by
  induction L with
  | nil => rfl
  | cons a L ih => simp only [flat, List.flatMap_cons, List.map_cons] at ih ⊢; rw [ih]; rfl
theorem flat_bytesOf (ls : List B16) : flat encB (bytesOf ls) = flat B16.cells ls := by
  rw [flat_encB]
  induction ls with
  | nil => rfl
  | cons a l ih =>
    simp only [bytesOf, flat, List.flatMap_cons, List.map_append] at ih ⊢
    rw [ih]
    simp [B16.cells]
theorem bytesAt_iff {w : World} {v : Value} {ls : List B16} {o : Option Nat} : BytesAt w v ls o ↔ SlAt 5 1 encB w v (bytesOf ls) o := by
  unfold SlAt
  simp only [length_bytesOf, Nat.mul_one, flat_bytesOf]
  constructor
  · rintro (⟨rfl, h⟩ | h)
    · exact .inl ⟨rfl, h⟩
    · exact .inr h
  · rintro (⟨h0, h⟩ | h)
    · left
      refine ⟨?_, h⟩
      have := length_bytesOf ls
      rw [h0] at this
      exact List.eq_nil_of_length_eq_zero (by simp at this; omega)
    · exact .inr h
end Go
namespace Go.Proofs
open Go.RowKit
theorem Try.info5 : (Try.prog.info? 5).map (fun i => (i.zero, i.size, i.bytes)) = some (some (.int .u8 0), 1, 1) := by kernel_rfl
/-- Bytes of one's own. -/
def BytesPost (w : World) (L : List Int) (e : Ending) (w' : World) : Prop :=
  ∃ v o, e = .returned v ∧ Ext w w' ∧ SlAt 5 1 encB w' v L o ∧ ∀ g, o = some g → w.heap.size ≤ g
set_option maxRecDepth 100000 in
set_option maxHeartbeats 400000 in
theorem bclone_some (w : World) (a : Addr) (cap : Nat) (L : List Int) (hr : Row 1 encB w (some a) L) (hl : L.length ≤ 100000) : Calls Try.prog 153 #[.slice (some a) L.length cap] w (BytesPost w L) := by
  obtain ⟨i0, hi, hz0, hz1, hz2⟩ := info_parts Try.info5
  have HR : Hid (∀ o, Row 1 encB (w.alloc o) (some a) L) := fun o => hr.ext ((Ext.refl w).alloc o)
  clear hr
  go_enter Try.func153, Try.ntmps153
  go_wp2_with (at_builtin; refine wpList_append_sl rfl (.tmp 5) (.tmp 6) 69 rfl i0 _ Try.underlying69 hi hz0 hz1 (by rfl) (by decide) (by rw [hz2]; decide) encB_ok _ [] none (SlAt.nil _ _) _ _ L (HR.out _) rfl rfl (by simp; omega) ?_; intro v' o' w' k1 k2 k3)
  all_goals
    go_ret
    exact ⟨_, o', rfl, (((Ext.refl w).alloc _).trans ⟨k2.os, k2.tape, k2.output, k2.size, fun k hk => k2.block k hk (by simp)⟩), k1, fun g hg => by rcases k3 with h | ⟨g', h, h'⟩ <;> rw [hg] at h <;> cases h; exact Nat.le_trans (by simp) h'⟩
set_option maxRecDepth 100000 in
set_option maxHeartbeats 400000 in
/-- Bytes: all bytes, in memory of their own. -/
theorem bytes_any (p : Value) (ls : List B16) (ib bb : Nat) (w : World) (h : ImgAt w p ls ib bb) : Calls Try.prog 118 #[p] w (BytesPost w (bytesOf ls)) := by
  obtain ⟨cap, hc, hcap, hib, hbb, hlo⟩ := h.facts
  have H := Lib.hid h
  have h256 := h.len
  obtain ⟨pa, rfl⟩ : ∃ pa, p = .pointer pa := ⟨_, h.p⟩
  cases h.p
  have hrow : Row 1 encB w (some ⟨bb, 0, none⟩) (bytesOf ls) := by
    obtain ⟨h1, ⟨v, h2, h3⟩, h4, h5⟩ := h
    have hv : v = .slice (some ⟨bb, 0, none⟩) (16 * ls.length) cap := by
      rw [cell_of_row w ib 0 _ 206 (0, 0) h2] at hc
      simpa using hc
    obtain ⟨a', cap', e, hr⟩ := (bytesAt_iff.1 h3).row encB_ok
    rw [hv] at e
    simp only [Value.slice.injEq] at e
    obtain ⟨rfl, -, -⟩ := e
    exact hr
  have HR := Lib.hid hrow
  have hlb := length_bytesOf ls
  rw [← hlb] at hc
  have hbl : (bytesOf ls).length ≤ 100000 := by omega
  clear h hrow hlb
  go_enter Try.func118, Try.ntmps118
  go_wp2_with fail
  refine (imgNone_any _ _ _ _ _ H.out).mono ?_
  rintro e w1 ⟨rfl, rfl⟩
  go_wp2_with fail
  refine (bclone_some _ _ _ _ HR.out hbl).mono ?_
  rintro e w2 ⟨v, o, rfl, hE, hs, hf⟩
  obtain ⟨a', cap', rfl, -⟩ := hs.row encB_ok
  have HS := Lib.hid hs
  clear hs
  go_wp2_with fail
  go_ret
  exact ⟨_, o, rfl, hE, HS.out, hf⟩
/-- A new image. -/
def ImgPost (w : World) (ls : List B16) (e : Ending) (w' : World) : Prop :=
  ∃ ib bb, e = .returned (.pointer (some ⟨ib, 0, none⟩)) ∧ Ext w w' ∧ ImgAt w' (.pointer (some ⟨ib, 0, none⟩)) ls ib bb ∧ w.heap.size ≤ ib ∧ w.heap.size ≤ bb
set_option maxRecDepth 100000 in
set_option maxHeartbeats 400000 in
theorem imgCopy_any (p : Value) (ls : List B16) (ib bb : Nat) (w : World) (h : ImgAt w p ls ib bb) : Calls Try.prog 109 #[p] w (ImgPost w ls) := by
  have H := Lib.hid h
  have h256 := h.len
  obtain ⟨pa, rfl⟩ : ∃ pa, p = .pointer pa := ⟨_, h.p⟩
  clear h
  go_enter Try.func109, Try.ntmps109
  go_wp2_with fail
  refine (imgNone_any _ _ _ _ _ H.out).mono ?_
  rintro e w1 ⟨rfl, rfl⟩
  go_wp2_with fail
  refine (bytes_any _ _ _ _ _ H.out).mono ?_
  rintro e w2 ⟨v, o, rfl, hE, hs, hf⟩
  have hb := bytesAt_iff.2 hs
  obtain ⟨a', cap', rfl, -⟩ := hs.row encB_ok
  have HB := Lib.hid hb
  clear hs hb
  go_wp2_with fail
  go_ret
  have hb := HB.out
  rcases o with _ | g
  · rcases hb with ⟨h0, _⟩ | ⟨g, _, _, ho, _⟩
    · rw [h0] at h256; simp at h256
    · cases ho
  · have hg := hf g rfl
    have hgl := hb.lt rfl
    refine ⟨w2.heap.size, g, rfl, hE.alloc _, ⟨rfl, ⟨_, heap_alloc_new _ _, BytesAt.ext hb ((Ext.refl _).alloc _)⟩, by omega, h256⟩, ?_, hg⟩
    have := hE.size
    omega
set_option maxRecDepth 100000 in
set_option maxHeartbeats 400000 in
theorem imgCopy_nil (w : World) : Calls Try.prog 109 #[.pointer none] w fun e w' => e = .returned (.pointer none) ∧ w = w' := by
  go_enter Try.func109, Try.ntmps109
  go_wp2_with fail
  refine (imgNone_nil _).mono ?_
  rintro e w1 ⟨rfl, rfl⟩
  go_wp2_with fail
  go_ret
  exact ⟨rfl, rfl⟩
/-- May an image have so many bytes? -/
def sizeOk (n : Nat) : Bool := n == 16 || n == 32 || n == 64 || n == 128 || n == 256 || n == 512 || n == 1024 || n == 2048 || n == 4096
theorem sizeOk_cases {n : Nat} (h : sizeOk n = true) : n = 16 ∨ n = 32 ∨ n = 64 ∨ n = 128 ∨ n = 256 ∨ n = 512 ∨ n = 1024 ∨ n = 2048 ∨ n = 4096 := by
  simp only [sizeOk, Bool.or_eq_true, beq_iff_eq] at h; omega
theorem bits_16 : bits BinOp.and IntKind.i64 (16 : Int) (15 : Int) = 0 := by kernel_rfl
theorem bits_32 : bits BinOp.and IntKind.i64 (32 : Int) (31 : Int) = 0 := by kernel_rfl
theorem bits_64 : bits BinOp.and IntKind.i64 (64 : Int) (63 : Int) = 0 := by kernel_rfl
theorem bits_128 : bits BinOp.and IntKind.i64 (128 : Int) (127 : Int) = 0 := by kernel_rfl
theorem bits_256 : bits BinOp.and IntKind.i64 (256 : Int) (255 : Int) = 0 := by kernel_rfl
theorem bits_512 : bits BinOp.and IntKind.i64 (512 : Int) (511 : Int) = 0 := by kernel_rfl
theorem bits_1024 : bits BinOp.and IntKind.i64 (1024 : Int) (1023 : Int) = 0 := by kernel_rfl
theorem bits_2048 : bits BinOp.and IntKind.i64 (2048 : Int) (2047 : Int) = 0 := by kernel_rfl
theorem bits_4096 : bits BinOp.and IntKind.i64 (4096 : Int) (4095 : Int) = 0 := by kernel_rfl
theorem bits_size {n : Nat} (h : sizeOk n = true) : bits BinOp.and IntKind.i64 (n : Int) ((n : Int) - 1) = 0 := by
  obtain ⟨z, hz⟩ : ∃ z : Int, z = (n : Int) := ⟨_, rfl⟩
  rw [← hz]
  have h' := sizeOk_cases h
  have hc : z = 16 ∨ z = 32 ∨ z = 64 ∨ z = 128 ∨ z = 256 ∨ z = 512 ∨ z = 1024 ∨ z = 2048 ∨ z = 4096 := by omega
  clear hz h h'
  rcases hc with h | h | h | h | h | h | h | h | h <;> rw [h]
  · exact bits_16
  · exact bits_32
  · exact bits_64
  · exact bits_128
  · exact bits_256
  · exact bits_512
  · exact bits_1024
  · exact bits_2048
  · exact bits_4096
set_option maxRecDepth 100000 in
theorem run_make69 (w : World) (n : Nat) (hn : n ≤ 4096) : (Instr.makeSlice 69 (.int .i64 n) (.int .i64 n)).run Try.prog w = .ok (.slice (some ⟨w.heap.size, 0, none⟩) n n) (w.alloc (.cells (Array.replicate n (.int .u8 0)) 5)) := by
  obtain ⟨i0, hi, hz0, hz1, hz2⟩ := info_parts Try.info5
  have := run_make (P := Try.prog) w 69 5 i0 (.int .u8 0) Try.underlying69 hi hz0 .i64 .i64 n n (by omega) (by omega) (by rw [hz2]; omega) (by omega)
  rw [this, hz1]
  simp only [Int.toNat_natCast]
  have e : madeCells (Value.int .u8 0).cells (n * 1) = Array.replicate n (.int .u8 0) := by
    apply Array.ext
    · simp [madeCells]
    · intro i h1 h2
      simp [madeCells, Value.cells, Nat.mod_one]
  rw [e]
theorem flat_zeros (k : Nat) : flat B16.cells (List.replicate k B16.zero) = List.replicate (16 * k) (.int .u8 0) := by
  rw [← flat_bytesOf, flat_encB]
  have : bytesOf (List.replicate k B16.zero) = List.replicate (16 * k) 0 := by
    induction k with
    | zero => rfl
    | succ k ih =>
      rw [List.replicate_succ]
      simp only [bytesOf, List.flatMap_cons] at ih ⊢
      rw [ih]
      simp only [B16.zero]
      rw [List.replicate_append_replicate]
      congr 1
      omega
  rw [this, List.map_replicate]
set_option maxRecDepth 100000 in
set_option maxHeartbeats 400000 in
theorem imgNew_any (n : Nat) (w : World) (h : sizeOk n = true) : Calls Try.prog 59 #[.int .i64 n] w fun e w' => ∃ ib bb, e = .returned (.tuple #[.pointer (some ⟨ib, 0, none⟩), .int .i64 0]) ∧ Ext w w' ∧ ImgAt w' (.pointer (some ⟨ib, 0, none⟩)) (List.replicate (n / 16) B16.zero) ib bb ∧ w.heap.size ≤ ib ∧ w.heap.size ≤ bb := by
  have hb := bits_size h
  have hn : 16 ≤ n ∧ n ≤ 4096 ∧ 16 * (n / 16) = n := by have := sizeOk_cases h; omega
  obtain ⟨hn1, hn2, hn3⟩ := hn
  have hmk := fun w => run_make69 w n hn2
  have HN := Lib.hid hn3
  clear h hn3
  go_enter Try.func59, Try.ntmps59
  go_wp2_with fail
  go_ret2
  refine ⟨w.heap.size + 1, w.heap.size, rfl, ((Ext.refl w).alloc _).alloc _, ⟨rfl, ⟨.slice (some ⟨w.heap.size, 0, none⟩) n n, ?_, ?_⟩, by omega, by simp; omega⟩, by omega, Nat.le_refl _⟩
  · rw [heap_alloc2_new]
  · right
    refine ⟨w.heap.size, n, Array.replicate n (.int .u8 0), rfl, ?_, ?_, ?_, ?_, by simp, ?_⟩
    · rw [List.length_replicate, HN.out]
    · rw [heap_alloc2_old]
    · rw [List.length_replicate, HN.out]; exact Nat.le_refl _
    · unfold maxLen; omega
    · rw [List.length_replicate, HN.out, flat_zeros, HN.out]
      simp
end Go.Proofs
/- Package image, walked: New refused, Of. -/
namespace Go
open Go.RowKit
/-- A row that is not empty, as a whole. -/
theorem okCells_of {n : Nat} {cs : Array Value} (h1 : cs.size = n) (h2 : ∀ v ∈ cs, v.oneCell' = true) : okCells n cs = true := by
  unfold okCells
  rw [Bool.and_eq_true]
  exact ⟨by simpa using h1, Array.all_eq_true_iff_forall_mem.2 h2⟩
theorem Row.whole {α : Type} {k : Nat} {enc : α → Array Value} {w : World} {b off : Nat} {L : List α} (hk : ∀ x, okCells k (enc x) = true) (hk0 : 0 < k) (h : Row k enc w (some ⟨b, off, none⟩) L) (hL : L ≠ []) :
    w.agg? ⟨b, off, none⟩ (L.length * k) = some (flat enc L).toArray := by
  have hcells := h.cells hk hk0 ⟨b, off, none⟩ rfl
  obtain ⟨n, hn⟩ : ∃ n, L.length = n + 1 := ⟨L.length - 1, by have := List.length_pos_iff.2 hL; omega⟩
  obtain ⟨b', off', e, hg⟩ := h n (L[n]'(by omega)) (by simp)
  cases e
  obtain ⟨c, t, fr, hh, _, hle, _⟩ := World.agg?_some hg
  simp only at hh hle
  have hfit : off + L.length * k ≤ c.size := by rw [hn, Nat.add_mul, Nat.one_mul]; omega
  unfold World.agg?
  simp only [hh, Option.isSome_none, Bool.false_eq_true, if_false]
  rw [if_pos hfit]
  congr 1
  have hfl := length_flat hk L
  apply Array.ext
  · simp [hfl]; omega
  · intro i h1 h2
    have hi : i < (flat enc L).length := by simpa using h2
    have hc := hcells i _ (List.getElem?_eq_getElem hi)
    have hadd : (⟨b, off, none⟩ : Addr).add i = ⟨b, off + i, none⟩ := by unfold Addr.add; split <;> simp_all
    rw [hadd] at hc
    simp only [World.cell?, hh, Option.isSome_none, Bool.false_eq_true, if_false] at hc
    obtain ⟨hl, he⟩ := Array.getElem?_eq_some_iff.1 hc
    simp only [Array.getElem_extract, List.getElem_toArray]
    exact he
theorem bytes_chunk : ∀ (k : Nat) (M : List Int), M.length = 16 * k → (∀ b ∈ M, 0 ≤ b ∧ b < 256) → ∃ ls : List B16, bytesOf ls = M ∧ ls.length = k
  | 0, M, h, _ => ⟨[], by simp at h; rw [h]; rfl, rfl⟩
  | k + 1, M, h, hb => by
    obtain ⟨ls, h1, h2⟩ := bytes_chunk k (M.drop 16) (by rw [List.length_drop, h]; omega) (fun b hm => hb b (List.mem_of_mem_drop hm))
    refine ⟨⟨M.take 16, by rw [List.length_take, h]; omega, fun b hm => hb b (List.mem_of_mem_take hm)⟩ :: ls, ?_, by simp [h2]⟩
    show M.take 16 ++ bytesOf ls = M
    rw [h1, List.take_append_drop]
end Go
namespace Go.Proofs
open Go.RowKit
set_option maxRecDepth 1000000 in
theorem bits_all_sizes : ((List.range 4097).all fun n => decide (n < 16) || sizeOk n || (bits BinOp.and IntKind.i64 (n : Int) ((n : Int) - 1) != 0)) = true := by kernel_rfl
theorem bits_not_size (n : Nat) (h0 : 16 ≤ n) (h1 : n ≤ 4096) (hp : sizeOk n = false) : (bits BinOp.and IntKind.i64 (n : Int) ((n : Int) - 1) != 0) = true := by
  have := List.all_eq_true.1 bits_all_sizes n (by rw [List.mem_range]; omega)
  rw [hp, decide_eq_false (by omega)] at this
  simpa using this
set_option maxRecDepth 100000 in
set_option maxHeartbeats 400000 in
theorem imgNew_bad (n : Nat) (w : World) (h : sizeOk n = false) : Calls Try.prog 59 #[.int .i64 n] w fun e w' => e = .returned (.tuple #[.pointer none, .int .i64 2]) ∧ w = w' := by
  by_cases h1 : n < 16
  · have h1' : (n : Int) < 16 := by omega
    clear h
    go_enter Try.func59, Try.ntmps59
    go_wp2_with fail
    go_ret2
    exact ⟨rfl, rfl⟩
  · have h1' : ¬ (n : Int) < 16 := by omega
    by_cases h2 : 4096 < n
    · have h2' : (4096 : Int) < (n : Int) := by omega
      clear h
      go_enter Try.func59, Try.ntmps59
      go_wp2_with fail
      go_ret2
      exact ⟨rfl, rfl⟩
    · have h2' : ¬ (4096 : Int) < (n : Int) := by omega
      have hb := bits_not_size n (by omega) (by omega) h
      clear h
      go_enter Try.func59, Try.ntmps59
      go_wp2_with fail
      go_ret2
      exact ⟨rfl, rfl⟩
set_option maxRecDepth 100000 in
set_option maxHeartbeats 400000 in
theorem imgOf_bad (M : List Int) (a : Option Addr) (cap : Nat) (w : World) (h : sizeOk M.length = false) :
    Calls Try.prog 97 #[.slice a M.length cap] w fun e w' => e = .returned (.tuple #[.pointer none, .int .i64 2]) ∧ w = w' := by
  have H := Lib.hid h
  clear h
  go_enter Try.func97, Try.ntmps97
  go_wp2_with fail
  refine (imgNew_bad _ _ H.out).mono ?_
  rintro e w1 ⟨rfl, rfl⟩
  go_wp2_with fail
  go_ret2
  exact ⟨rfl, rfl⟩
set_option maxRecDepth 100000 in
set_option maxHeartbeats 400000 in
theorem imgOf_any (M : List Int) (a : Option Addr) (cap : Nat) (w : World) (h : sizeOk M.length = true) (hM : Row 1 encB w a M) (ls : List B16) (hls : bytesOf ls = M) :
    Calls Try.prog 97 #[.slice a M.length cap] w fun e w' => ∃ ib bb, e = .returned (.tuple #[.pointer (some ⟨ib, 0, none⟩), .int .i64 0]) ∧ Ext w w' ∧ ImgAt w' (.pointer (some ⟨ib, 0, none⟩)) ls ib bb ∧ w.heap.size ≤ ib ∧ w.heap.size ≤ bb := by
  have hn : 16 ≤ M.length ∧ M.length ≤ 4096 := by have := sizeOk_cases h; omega
  have hne : M ≠ [] := fun e => by rw [e] at hn; simp at hn
  have hk := length_bytesOf ls
  rw [hls] at hk
  obtain ⟨b, off, rfl⟩ : ∃ b off, a = some ⟨b, off, none⟩ := by
    obtain ⟨b, off, e, -⟩ := hM 0 (M[0]'(by omega)) (by simp)
    exact ⟨b, off, e⟩
  have hag := hM.whole encB_ok (by decide) hne
  rw [Nat.mul_one] at hag
  have hbl : b < w.heap.size := World.agg?_lt hag
  have hok : okCells M.length (flat encB M).toArray = true := by
    refine okCells_of (by rw [List.size_toArray, length_flat encB_ok]; omega) fun v hv => ?_
    exact flat_oneCell encB_ok M v (by simpa using hv)
  obtain ⟨cs, hcs⟩ : ∃ cs, cs = (flat encB M).toArray := ⟨_, rfl⟩
  rw [← hcs] at hag hok
  have HCS := Lib.hid hcs
  clear hcs
  have H := Lib.hid h
  have HA := Lib.hid hag
  have HK := Lib.hid hok
  have HL := Lib.hid hls
  have HKK := Lib.hid hk
  clear h hM hag hok hls hk
  go_enter Try.func97, Try.ntmps97
  go_wp2_with fail
  refine (imgNew_any _ _ H.out).mono ?_
  rintro e w1 ⟨ib, bb, rfl, hE, hI, hib, hbb⟩
  obtain ⟨cap1, hc, hcap, hibl, hbbl, hlo⟩ := hI.facts
  have hrep : 16 * (List.replicate (M.length / 16) B16.zero).length = M.length := by rw [List.length_replicate]; have := sizeOk_cases H.out; omega
  rw [hrep] at hc hcap
  have hdst : (w1.agg? ⟨bb, 0, none⟩ M.length).isSome = true := by
    obtain ⟨h1, ⟨v, h2, h3⟩, h4, h5⟩ := hI
    rcases h3 with ⟨_, h, _⟩ | ⟨g', cap', cur, ho, hv, hh, hle, hcm, hs, htake⟩
    · cases h
    · cases ho
      unfold World.agg?
      simp only [hh, Option.isSome_none, Bool.false_eq_true, if_false]
      rw [if_pos (by omega)]
      rfl
  have hsrc : w1.agg? ⟨b, off, none⟩ M.length = some cs := (hE.agg hbl).trans HA.out
  have hokk := HK.out
  have HI := Lib.hid hI
  clear hI hrep
  go_wp2_with fail
  go_ret2
  refine ⟨ib, bb, rfl, hE.putAgg _ _ hbb, ?_, hib, hbb⟩
  have hcs := HCS.out
  subst hcs
  obtain ⟨h1, ⟨v, h2, h3⟩, h4, h5⟩ := HI.out
  have hlen : (List.replicate (M.length / 16) B16.zero).length = ls.length := by rw [List.length_replicate]; have := HKK.out; omega
  refine ⟨h1, ⟨v, (w1.putAgg_other _ _ (by simpa using h4)).trans h2, ?_⟩, h4, by rw [← hlen]; exact h5⟩
  rcases h3 with ⟨_, h, _⟩ | ⟨g', cap', cur, ho, hv, hh, hle, hcm, hs, htake⟩
  · cases h
  · cases ho
    have hsz : (flat encB M).toArray.size = M.length := by simp only [List.size_toArray]; rw [length_flat encB_ok]; omega
    have hkk := HKK.out
    rw [hlen] at hle hv htake
    refine .inr ⟨bb, cap', splice cur 0 (flat encB M).toArray, rfl, hv, World.putAgg_heap hh, hle, hcm, ?_, ?_⟩
    · rw [size_splice _ _ _ (by rw [hsz]; omega)]; exact hs
    · unfold splice
      simp only [List.take_zero, List.nil_append, Nat.zero_add]
      rw [← flat_bytesOf, HL.out, ← hkk]
      rw [List.take_append_of_le_length (by rw [length_flat encB_ok]; omega), List.take_of_length_le (by rw [length_flat encB_ok]; omega)]
end Go.Proofs
