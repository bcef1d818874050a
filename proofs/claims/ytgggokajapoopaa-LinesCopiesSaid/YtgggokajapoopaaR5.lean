/- The document's lines, walked: Drop. -/
import Derived.Test.YtgggokajapoopaaR4
namespace Go
def Rf.drop (r : Rf) (n : Int) : Rf := { r with L := r.L.filter fun l => l.num != n }
def RfPost1 (w : World) (r : Rf) (e : Ending) (w' : World) : Prop :=
  ∃ v' o', e = .returned v' ∧ RfAt w' v' r o' ∧ Ext w w' ∧ ∀ g, o' = some g → w.heap.size ≤ g
end Go
namespace Go.Proofs
open Go.RowKit
/-- The two boxes of Drop: the document's cache, and the result. -/
structure Boxes2 (W : World) (n : Nat) (s ways : Int) (vs : Value) : Prop where
  a0 : W.cell? ⟨n, 0, none⟩ = some (.int .i64 s)
  a1 : W.cell? ⟨n, 1, none⟩ = some (.int .i64 ways)
  a2 : W.cell? ⟨n, 2, none⟩ = some vs
  af : W.frozen? ⟨n, 2, none⟩ = false
  c0 : W.cell? ⟨n + 1, 0, none⟩ = some (.int .i64 0)
  c1 : W.cell? ⟨n + 1, 1, none⟩ = some (.int .i64 0)
  c2 : W.cell? ⟨n + 1, 2, none⟩ = some (.slice none 0 0)
  f0 : W.frozen? ⟨n + 1, 0, none⟩ = false
  f1 : W.frozen? ⟨n + 1, 1, none⟩ = false
  f2 : W.frozen? ⟨n + 1, 2, none⟩ = false
  lt : n + 1 < W.heap.size
theorem Boxes2.ext {W W' : World} {n : Nat} {s ways : Int} {vs : Value} (h : Boxes2 W n s ways vs) (hE : Ext W W') : Boxes2 W' n s ways vs := by
  have h1 := h.lt
  obtain ⟨r1, r2, r3, r5, r4⟩ := hE.rules
  exact ⟨(r1 _ _ (by omega)).trans h.a0, (r1 _ _ (by omega)).trans h.a1, (r1 _ _ (by omega)).trans h.a2, (r2 _ _ (by omega)).trans h.af,
    (r1 _ _ (by omega)).trans h.c0, (r1 _ _ (by omega)).trans h.c1, (r1 _ _ (by omega)).trans h.c2, (r2 _ _ (by omega)).trans h.f0, (r2 _ _ (by omega)).trans h.f1, (r2 _ _ (by omega)).trans h.f2, by omega⟩
/-- The world of Drop behind its beginning. -/
def dropW (w : World) (s ways : Int) (vs : Value) : World := (w.alloc (.cells #[.int .i64 s, .int .i64 ways, vs] 28)).alloc (.cells #[.int .i64 0, .int .i64 0, .slice none 0 0] 28)
theorem Boxes2.start (w : World) (s ways : Int) (vs : Value) : Boxes2 (dropW w s ways vs) w.heap.size s ways vs := by
  unfold dropW
  constructor <;> simp [go_sem]
theorem ext_dropW (w : World) (s ways : Int) (vs : Value) : Ext w (dropW w s ways vs) := ((Ext.refl w).alloc _).alloc _
theorem size_dropW (w : World) (s ways : Int) (vs : Value) : (dropW w s ways vs).heap.size = w.heap.size + 2 := by simp [dropW]
set_option maxRecDepth 100000 in
set_option maxHeartbeats 400000 in
theorem rdrop_arg (s ways n : Int) (L : List Ln) (a : Option Addr) (cap : Nat) (w : World) (hL : Row 18 Ln.cells w a L) (hlen : L.length ≤ 1000) :
    Calls Try.prog 37 #[.agg #[.int .i64 s, .int .i64 ways, .slice a L.length cap], .int .u32 n] w (RfPost1 w ⟨s, ways, L.filter fun l => l.num != n⟩) := by
  obtain ⟨i0, hi, hz0, hz1, hz2⟩ := info_parts Try.info39
  go_enter Try.func37, Try.ntmps37
  go_wp2_with fail
  go_loopw [5, 6] (fun v i wr => ∃ k : Nat, k ≤ L.length ∧ i = .int .i64 k ∧ FilInv (dropW w s ways (.slice a L.length cap)) (w.heap.size + 2) ((L.take k).filter fun l => l.num != n) v wr) (fun _ i _ => L.length - (intOf i).toNat)
  case atStart => exact ⟨0, Nat.zero_le _, rfl, none, 0, 0, none, rfl, rfl, SlAt.nil _ _, by simp, Below.refl _ _⟩
  case round =>
    obtain ⟨k, hk, rfl, hI⟩ := hrel
    have HI := Lib.hid hI
    obtain ⟨a1, n1, c1, o, rfl, hn1, hS, hfr, hE0⟩ := hI
    have hE := (ext_dropW w s ways (.slice a L.length cap)).trans hE0
    have hX := (Boxes2.start w s ways (.slice a L.length cap)).ext hE0
    have HX := Lib.hid hX
    obtain ⟨xa0, xa1, xa2, xaf, xc0, xc1, xc2, xf0, xf1, xf2, xlt⟩ := hX
    by_cases hlt : k < L.length
    · obtain ⟨x, hx⟩ : ∃ x, L[k]? = some x := ⟨L[k], by simp [hlt]⟩
      obtain ⟨b, off, rfl, hg⟩ := (hL.ext hE) k x hx
      have hbl : b < wr.heap.size := World.agg?_lt hg
      have hc0 : wr.cell? ⟨b, off + k * 18, none⟩ = some (.int .u32 x.num) := by obtain ⟨_, _, e, h⟩ := (hL.ext hE).cell hx (j := 0) (by omega); cases e; rw [Nat.add_zero] at h; rw [h]; simp [go_sem]
      have hki : (k : Int) < (L.length : Int) := by omega
      by_cases hq : x.num = n
      · have hp : (x.num != n) = false := by simp [hq]
        have HX := Lib.hid hx
        clear hx hn1 hfr hS hE0
        go_wp2_with fail
        go_roundw
        case rel => exact ⟨k + 1, by omega, by go_num, HI.out.skip HX.out hp (Ext.refl _)⟩
        case measure => simp [intOf]; omega
      · have hp : (x.num != n) = true := by simp [hq]
        have HX := Lib.hid hx
        have H1 := Lib.hid hn1
        have HF := Lib.hid hfr
        have hfl : ((L.take k).filter fun l => l.num != n).length ≤ 1000 := Nat.le_trans (List.length_filter_le _ _) (by simp; omega)
        have HS : Hid (∀ w1, Ext wr w1 → SetAt w1 (.slice a1 n1 c1) ((L.take k).filter fun l => l.num != n) o) := fun w1 h => hS.ext h
        have HE := Lib.hid hE0
        have hm : w.heap.size + 2 ≤ wr.heap.size := by omega
        clear hx hn1 hfr hS hE0
        go_wp2_with (at_builtin; refine wpList_append_sl rfl (.tmp 22) (.tmp 28) 26 rfl i0 _ Try.underlying26 hi hz0 hz1 (by rfl) (by decide) (by rw [hz2]; decide) Ln.okCells _ _ o (HS.out _ ((Ext.refl wr).alloc _)) _ _ [x] (Row_alloc_one Ln.okCells wr x 39) rfl rfl (by simp; omega) ?_; intro v' o' w' k1 k2 k3)
        go_roundw
        case rel => exact ⟨k + 1, by omega, by go_num, FilInv.take (Nat.le_of_eq (size_dropW ..)) HF.out HE.out HX.out hp ((Ext.refl wr).alloc _) k1 k2 k3 hm⟩
        case measure => simp [intOf]; omega
    · have hkk : k = L.length := by omega
      subst hkk
      rw [List.take_length] at HI
      clear hS hn1
      go_wp2_with fail
      obtain ⟨a2, n2, c2, o2, e, h2, h3, h4, h5⟩ := HI.out
      cases e
      clear h2
      refine bodyPost_ret (resC rfl _ _ ⟨w.heap.size + 1, 0, none⟩ _ rfl (run_loadVar28 _ _ _ _ _ (by simp [go_sem, *] <;> rfl) (by simp [go_sem, *] <;> rfl) (by simp [go_sem, *] <;> rfl))) rfl ⟨_, o2, rfl, ⟨_, rfl, ?_⟩, ?_, fun g' hg' => ?_⟩
      · show SetAt _ _ (L.filter fun l => l.num != n) o2
        refine h3.keep fun b hb => ?_
        have := h4 b hb
        rw [heap_setCell_other _ _ _ _ (by simp only; omega), heap_setCell_other _ _ _ _ (by simp only; omega), heap_setCell_other _ _ _ _ (by simp only; omega), heap_setCell_other _ _ _ _ (by simp only; omega)]
      · exact (((hE.setCell _ _ (by simp)).setCell _ _ (by simp only; omega)).setCell _ _ (by simp only; omega)).setCell _ _ (by simp only; omega)
      · have := h4 g' hg'; omega
theorem rdrop_any (v : Value) (r : Rf) (o : Option Nat) (n : Int) (w : World) (h : RfAt w v r o) (hl : r.L.length ≤ 1000) :
    Calls Try.prog 37 #[v, .int .u32 n] w (RfPost1 w (r.drop n)) := by
  obtain ⟨vs, rfl, hs⟩ := h
  obtain ⟨s, ways, L⟩ := r
  obtain ⟨a, cap, rfl, hr⟩ := hs.row Ln.okCells
  exact rdrop_arg s ways n L a cap w hr hl
end Go.Proofs
