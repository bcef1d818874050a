import Derived.Test.YtgggokajapoopaaGa
import Derived.Deep.RegionHeld3
/- The document's home: New, with, set. -/
namespace Go
open Go.RowKit Go.Proofs
def REn.zero : REn := ⟨En.zero, none, 0⟩
def Rh.new (m : List B16) : Rh := ⟨m, List.replicate m.length En.zero⟩
/-- Between two rounds of New: the entries lie in a slice of their own. -/
def NewInv (W0 : World) (vb : Value) (k : Nat) (wr : World) : Prop :=
  ∃ v o, Ext W0 wr ∧ wr.heap[W0.heap.size]? = some (.cells #[vb, v] 74 (0, 0)) ∧ SlAt 84 11 REn.cells wr v (List.replicate k REn.zero) o ∧ ∀ g, o = some g → W0.heap.size < g
theorem NewInv.next {W0 wr w' : World} {vb v v' : Value} {k : Nat} {o o' : Option Nat} {ob : Obj} (hE : Ext W0 wr) (hB : wr.heap[W0.heap.size]? = some (.cells #[vb, v] 74 (0, 0))) (hfr : ∀ g, o = some g → W0.heap.size < g)
    (k1 : SlAt 84 11 REn.cells w' v' (List.replicate k REn.zero ++ [REn.zero]) o') (k2 : (wr.alloc ob).grownBy w' o) (k3 : o' = o ∨ ∃ g, o' = some g ∧ (wr.alloc ob).heap.size ≤ g) : NewInv W0 vb (k + 1) (w'.setCell ⟨W0.heap.size, 1, none⟩ v') := by
  have hs := hE.size
  have hl : W0.heap.size < wr.heap.size := (Array.getElem?_eq_some_iff.1 hB).1
  have hE2 : Ext W0 w' := Ext.of_grown (hE.trans ((Ext.refl wr).alloc _)) k2 fun g hg => Nat.le_of_lt (hfr g hg)
  have ho : ∀ g, o' = some g → W0.heap.size < g := fun g hg => by
    rcases k3 with h | ⟨g', h, h'⟩
    · exact hfr g (h ▸ hg)
    · rw [hg] at h; cases h
      simp at h'
      omega
  have hB2 : w'.heap[W0.heap.size]? = some (.cells #[vb, v] 74 (0, 0)) := (k2.block _ (by simp; omega) (fun e => by have := hfr _ e.symm; omega)).trans ((Below.heap_alloc _ _ _ hl).trans hB)
  have hset := heap_setCell_same w' W0.heap.size 1 _ 74 v' hB2
  refine ⟨v', o', hE2.setCell _ _ (Nat.le_refl _), hset, ?_, ho⟩
  rw [show List.replicate (k + 1) REn.zero = List.replicate k REn.zero ++ [REn.zero] from List.replicate_succ']
  exact k1.keep fun b hb => heap_setCell_other _ _ _ _ (by have := ho b hb; simp only; omega)
end Go
namespace Go.Proofs
open Go.RowKit
theorem Try.info84 : (Try.prog.info? 84).map (fun i => (i.zero, i.size, i.bytes)) = some (some (.agg #[.int .i64 0, .bool false, .bool false, .bool false, .bool false, .bool false, .int .i64 0, .int .i64 0, .int .i64 0, .bool false, .slice none 0 0]), 11, 72) := by kernel_rfl
theorem rzero_cells : #[Value.int .i64 (-1), .bool false, .bool false, .bool false, .bool false, .bool false, .int .i64 0, .int .i64 0, .int .i64 0, .bool false, .slice none 0 0] = REn.zero.cells := rfl
set_option maxRecDepth 100000 in
set_option maxHeartbeats 1000000 in
theorem rnew_any (M : List Int) (a : Option Addr) (cap : Nat) (w : World) (ls : List B16) (hls : bytesOf ls = M) (hM : Row 1 encB w a M) (hl : ls.length ≤ 256) :
    Calls Try.prog 98 #[.slice a M.length cap] w fun e w' => ∃ v, e = .returned v ∧ Ext w w' ∧ RhAt w' v (Rh.new ls) := by
  obtain ⟨i0, hi, hz0, hz1, hz2⟩ := info_parts Try.info5
  obtain ⟨i1, hi', hz0', hz1', hz2'⟩ := info_parts Try.info84
  have hlen := length_bytesOf ls
  rw [hls] at hlen
  obtain ⟨K, hK⟩ : ∃ K, K = ls.length := ⟨_, rfl⟩
  have HM : Hid (∀ W, Ext w W → Row 1 encB W a M) := fun W hE => hM.ext hE
  have HK := Lib.hid hK
  have HLS := Lib.hid hls
  rw [← hK] at hlen hl
  obtain ⟨RZ, hRZ⟩ : ∃ RZ, RZ = REn.zero := ⟨_, rfl⟩
  have hz := rzero_cells
  rw [← hRZ] at hz
  have HRZ := Lib.hid hRZ
  have hq : Int.tdiv ((M.length : Nat) : Int) 16 = (K : Int) := by rw [Int.tdiv_eq_ediv_of_nonneg (by omega)]; omega
  have hml : M.length ≤ 4096 := by omega
  clear hls hM hK hRZ hlen
  go_enter Try.func98, Try.ntmps98
  go_wp2_with (at_builtin; refine wpList_append_sl rfl (.const (.slice none 0 0)) (.tmp 5) 69 rfl i0 _ Try.underlying69 hi hz0 hz1 (by rfl) (by decide) (by rw [hz2]; decide) encB_ok _ [] none (SlAt.nil _ _) _ _ M (HM.out _ ((Ext.refl w).alloc _)) rfl rfl (by simp; omega) ?_; intro v' o' w1 k1 k2 k3; rw [List.nil_append] at k1; obtain ⟨a1, c1, rfl, -⟩ := k1.row encB_ok; have HE1 : Hid (Ext w w1) := ((Ext.refl w).alloc _).trans ⟨k2.os, k2.tape, k2.output, k2.size, fun k hk => k2.block k hk (by simp)⟩; have hA : w1.heap[w.heap.size]? = some (.cells #[.slice none 0 0, .slice none 0 0] 74 (0, 0)) := (k2.block _ (by simp) (by simp)).trans (heap_alloc_new w _); have hw1 : w.heap.size < w1.heap.size := (Array.getElem?_eq_some_iff.1 hA).1; have HA := Lib.hid hA; have HF1 : Hid (∀ g, o' = some g → w.heap.size < g) := (fun g hg => (by rcases k3 with h | ⟨g', h, h'⟩ <;> rw [hg] at h <;> cases h; simp at h'; omega)); have K1 := Lib.hid k1; clear k1 k2 k3 hA)
  go_loopw [4] (fun i wr => ∃ k : Nat, k ≤ K ∧ i = .int .i64 k ∧ NewInv w1 (.slice a1 M.length c1) k wr) (fun i _ => K - (intOf i).toNat)
  case atStart => exact ⟨0, Nat.zero_le _, rfl, _, none, (Ext.refl w1).alloc _, heap_alloc_new w1 _, SlAt.nil _ _, by simp⟩
  case round =>
    obtain ⟨k, hk, rfl, hI⟩ := hrel
    have HI := Lib.hid hI
    obtain ⟨v, o, hE, hB, hS, hfr⟩ := hI
    have c1' : wr.cell? ⟨w1.heap.size, 1, none⟩ = some v := by rw [cell_of_row wr _ 1 _ 74 (0, 0) hB]; rfl
    have g1 : wr.frozen? ⟨w1.heap.size, 1, none⟩ = false := frozen_of_row wr _ 1 _ 74 hB
    by_cases hlt : k < K
    · obtain ⟨a2, c2, rfl, -⟩ := hS.row REn.ok
      rw [List.length_replicate] at hS c1' hB
      have HE := Lib.hid hE
      have HB := Lib.hid hB
      have HS := Lib.hid hS
      have HFR := Lib.hid hfr
      have hbl : w1.heap.size < wr.heap.size := (Array.getElem?_eq_some_iff.1 hB).1
      have hrow : Row 11 REn.cells (wr.alloc (.cells RZ.cells 84)) (some ⟨wr.heap.size, 0, none⟩) [RZ] := Row_alloc_one REn.ok wr RZ 84
      have HROW := Lib.hid hrow
      clear hE hB hS hfr hrow
      go_wp2_with (at_builtin; refine wpList_append_sl rfl (.tmp 16) (.tmp 18) 72 rfl i1 _ Try.underlying72 hi' hz0' hz1' (by rfl) (by decide) (by rw [hz2']; decide) REn.ok _ _ o (HS.out.ext ((Ext.refl wr).alloc _)) _ _ [RZ] HROW.out rfl rfl (by simp; omega) ?_; intro v' o' w' k1 k2 k3; obtain ⟨a3, c3, rfl, -⟩ := k1.row REn.ok; obtain ⟨d1, d2⟩ := grownBy_cell k2 (b := w1.heap.size) (by simp; omega) (fun e => by have := HFR.out _ e; omega) 1)
      go_roundw
      case rel =>
        refine ⟨k + 1, by omega, by go_num, ?_⟩
        have := NewInv.next HE.out HB.out HFR.out (by rw [HRZ.out] at k1; exact k1) k2 k3
        simpa using this
      case measure => simp [intOf]; omega
    · have hkk : k = K := by omega
      subst hkk
      have hlr : (List.replicate k REn.zero).length = k := List.length_replicate
      obtain ⟨a2, c2, rfl, -⟩ := hS.row REn.ok
      rw [hlr] at hS c1' hB
      have hag : wr.agg? ⟨w1.heap.size, 0, none⟩ 2 = some #[.slice a1 M.length c1, .slice a2 k c2] := World.agg?_row hB rfl
      have hAr := (hE.block _ hw1).trans HA.out
      obtain ⟨r1, r2⟩ : (wr.agg? ⟨w.heap.size, 0, none⟩ 2).isSome = true ∧ wr.loose w.heap.size = true := by
        rw [World.agg?_row (n := 2) hAr rfl]
        exact ⟨rfl, by simp [World.loose, hAr]⟩
      have h2 := twos_ok a1 a2 M.length c1 k c2
      have HS := Lib.hid hS
      have HE := Lib.hid hE
      clear hB hS hAr hE
      go_wp2_with fail
      (try simp only [Exit.inBlock, Exit.then])
      refine bodyPost_ret (resC rfl _ _ ⟨w.heap.size, 0, none⟩ (.agg #[.slice a1 M.length c1, .slice a2 k c2]) rfl ?_) rfl ?_
      · exact run_loadVar_agg 74 2 Try.isAgg74 Try.sizeOf74 _ _ _ (World.agg?_putAgg_same _ _ _ _ r1 rfl)
      · have hM2 : SlAt 5 1 encB (wr.putAgg ⟨w.heap.size, 0, none⟩ #[.slice a1 M.length c1, .slice a2 k c2]) (.slice a1 M.length c1) M o' :=
          (K1.out.ext HE.out).keep fun b hb => World.putAgg_other _ _ _ (by have := HF1.out b hb; simp only; omega)
        have hS2 : SlAt 84 11 REn.cells (wr.putAgg ⟨w.heap.size, 0, none⟩ #[.slice a1 M.length c1, .slice a2 k c2]) (.slice a2 k c2) (List.replicate k REn.zero) o :=
          HS.out.keep fun b hb => World.putAgg_other _ _ _ (by have := hfr b hb; simp only; omega)
        obtain ⟨x1, x2, e1, hr1⟩ := hM2.row encB_ok
        obtain ⟨y1, y2, e2, hr2⟩ := hS2.row REn.ok
        cases e1
        simp only [Value.slice.injEq] at e2
        obtain ⟨rfl, -, rfl⟩ := e2
        refine ⟨_, rfl, (HE1.out.trans HE.out).putAgg _ _ (Nat.le_refl _), a1, c1, a2, c2, List.replicate k REn.zero, ?_, ?_, hr2, ?_, ?_⟩
        · show _ = Value.agg #[.slice a1 (bytesOf ls).length c1, .slice a2 (List.replicate k REn.zero).length c2]
          rw [HLS.out, hlr]
        · show Row 1 encB _ a1 (bytesOf ls)
          rw [HLS.out]; exact hr1
        · show _ = List.replicate ls.length En.zero
          rw [List.map_replicate, HK.out]; rfl
        · intro q hq
          rw [List.eq_of_mem_replicate hq]
          exact ⟨fun i x hx => by simp [REn.zero, En.zero] at hx, Nat.le_refl _⟩
end Go.Proofs
/- The law's own: made, a home over bytes and the document's. -/
namespace Go.Proofs
open Go.RowKit
theorem _root_.Go.Row.off {α : Type} {k : Nat} {enc : α → Array Value} {w w' : World} {a : Option Addr} {L : List α} {A : Nat} (h : Row k enc w a L) (hA : ∀ o x, w.agg? ⟨A, o, none⟩ k ≠ some (enc x)) (hk : ∀ b, b ≠ A → w'.heap[b]? = w.heap[b]?) : Row k enc w' a L := by
  intro i x hx
  obtain ⟨b, off, e, hg⟩ := h i x hx
  refine ⟨b, off, e, ?_⟩
  rw [World.agg?_of_block (w := w) (a := ⟨b, off + i * k, none⟩) (hk b fun e => hA (off + i * k) x (e ▸ hg))]
  exact hg
/-- A block of two slices is no part of a document's home. -/
theorem _root_.Go.RhAt.off {w w' : World} {v : Value} {G : Rh} {A : Nat} {a1 a2 : Option Addr} {n1 c1 n2 c2 : Nat} {t : TypeId} {fr : Nat × Nat} (h : RhAt w v G) (hA : w.heap[A]? = some (.cells #[.slice a1 n1 c1, .slice a2 n2 c2] t fr)) (hk : ∀ b, b ≠ A → w'.heap[b]? = w.heap[b]?) : RhAt w' v G := by
  have small : ∀ o n cs, w.agg? ⟨A, o, none⟩ n = some cs → o + n ≤ 2 ∧ cs = (#[.slice a1 n1 c1, .slice a2 n2 c2] : Array Value).extract o (o + n) := fun o n cs hg => by
    obtain ⟨c, t', fr', e, -, hle, hx⟩ := World.agg?_some hg
    simp only at e hle hx
    rw [hA] at e
    cases e
    exact ⟨hle, hx⟩
  obtain ⟨ab, cb, ae, ce, L, h1, h2, h3, h4, h5⟩ := h
  refine ⟨ab, cb, ae, ce, L, h1, h2.off (fun o x hg => ?_) hk, h3.off (fun o x hg => ?_) hk, h4, fun p hp => ⟨(h5 p hp).1.off (fun o x hg => ?_) hk, (h5 p hp).2⟩⟩
  · obtain ⟨hle, hx⟩ := small _ _ _ hg
    have ho : o = 0 ∨ o = 1 := by omega
    rcases ho with rfl | rfl
    · simp [encB] at hx
    · simp [encB] at hx
  · have := (small _ _ _ hg).1; omega
  · have := (small _ _ _ hg).1; omega
def rhNil : Array Value := #[.slice none 0 0, .slice none 0 0]
/-- A home that was made, and the document's. -/
def MadePost (w : World) (ls : List B16) (e : Ending) (w' : World) : Prop :=
  ∃ hb ib bb mb v, e = .returned (.tuple #[.pointer (some ⟨hb, 0, none⟩), v, .bool true]) ∧ Ext w w' ∧ HomAt w' (.pointer (some ⟨hb, 0, none⟩)) (Hom.new ls) hb ib bb mb (fun _ => False) ∧ w.heap.size ≤ hb ∧ w.heap.size ≤ bb ∧ w.heap.size ≤ mb ∧ w.heap.size ≤ ib ∧ RhAt w' v (Rh.new ls)
set_option maxRecDepth 100000 in
set_option maxHeartbeats 1000000 in
theorem made_bad (M : List Int) (a : Option Addr) (cap : Nat) (w : World) (h : sizeOk M.length = false) :
    Calls Try.prog 45 #[.slice a M.length cap] w fun e w' => e = .returned (.tuple #[.pointer none, .agg rhNil, .bool false]) ∧ Ext w w' := by
  have H := Lib.hid h
  clear h
  go_enter Try.func45, Try.ntmps45
  go_wp2_with (go_at_call 97; refine (imgOf_bad _ _ _ _ H.out).mono ?_; rintro e w1 ⟨rfl, rfl⟩)
  (try simp only [Exit.inBlock, Exit.then])
  refine bodyPost_ret (resTCT rfl _ _ ⟨w.heap.size, 0, none⟩ (.agg rhNil) rfl ?_) rfl ⟨rfl, (Ext.refl w).alloc _⟩
  exact run_loadVar_agg 74 2 Try.isAgg74 Try.sizeOf74 _ _ _ (by simp [go_sem]; rfl)
set_option maxRecDepth 100000 in
set_option maxHeartbeats 1000000 in
theorem made_long (M : List Int) (a : Option Addr) (cap : Nat) (w : World) (h : sizeOk M.length = true) (hM : Row 1 encB w a M) (ls : List B16) (hls : bytesOf ls = M) (hl : 128 < M.length) :
    Calls Try.prog 45 #[.slice a M.length cap] w fun e w' => e = .returned (.tuple #[.pointer none, .agg rhNil, .bool false]) ∧ Ext w w' := by
  have H := Lib.hid h
  have HM := Lib.hid hM
  have hd : decide ((128 : Int) < ((M.length : Nat) : Int)) = true := by simp; omega
  have HLS := Lib.hid hls
  clear h hM hl hls
  go_enter Try.func45, Try.ntmps45
  go_wp2_with (go_at_call 97; refine (imgOf_any M _ _ _ H.out (HM.out.ext ((Ext.refl w).alloc _)) ls HLS.out).mono ?_; rintro e w1 ⟨ib, bb, rfl, hE, -⟩; have hA : w1.heap[w.heap.size]? = some (.cells #[.slice none 0 0, .slice none 0 0] 74 (0, 0)) := (hE.block _ (by simp)).trans (heap_alloc_new w _); obtain ⟨r1, r2⟩ : (w1.agg? ⟨w.heap.size, 0, none⟩ 2).isSome = true ∧ w1.loose w.heap.size = true := ⟨by rw [World.agg?_row (n := 2) hA rfl]; rfl, by simp [World.loose, hA]⟩; have HE := Lib.hid hE; clear hE hA)
  (try simp only [Exit.inBlock, Exit.then])
  refine bodyPost_ret (resTCT rfl _ _ ⟨w.heap.size, 0, none⟩ (.agg rhNil) rfl ?_) rfl ⟨rfl, (((Ext.refl w).alloc _).trans HE.out).putAgg _ _ (Nat.le_refl _)⟩
  exact run_loadVar_agg 74 2 Try.isAgg74 Try.sizeOf74 _ _ _ (World.agg?_putAgg_same _ _ _ _ r1 rfl)
set_option maxRecDepth 100000 in
set_option maxHeartbeats 1000000 in
theorem made_any (M : List Int) (a : Option Addr) (cap : Nat) (w : World) (h : sizeOk M.length = true) (hM : Row 1 encB w a M) (ls : List B16) (hls : bytesOf ls = M) (hl : M.length ≤ 128) :
    Calls Try.prog 45 #[.slice a M.length cap] w (MadePost w ls) := by
  have H := Lib.hid h
  have HM : Hid (∀ W, Ext w W → Row 1 encB W a M) := fun W hE => hM.ext hE
  have hd : decide ((128 : Int) < ((M.length : Nat) : Int)) = false := by simp; omega
  have hlen := length_bytesOf ls
  rw [hls] at hlen
  have hl2 : ls.length ≤ 256 := by omega
  have HLS := Lib.hid hls
  clear h hM hl hls hlen
  go_enter Try.func45, Try.ntmps45
  go_wp2_with (first
    | (go_at_call 97; refine (imgOf_any M _ _ _ H.out (HM.out _ ((Ext.refl w).alloc _)) ls HLS.out).mono ?_; rintro e w1 ⟨ib, bb, rfl, hE, hi, -, -⟩; have HI := Lib.hid hi; have HE1 := Lib.hid hE; have hs1 := hE.size; clear hi hE)
    | (go_at_call 58; refine (hnew_any _ _ _ _ _ HI.out).mono ?_; rintro e w2 ⟨hb, ib2, bb2, mb, rfl, hE2, hh2, l1, l2, l3, l4⟩; have HE2 := Lib.hid (HE1.out.trans hE2); have HH2 := Lib.hid hh2; clear hE2 hh2)
    | (go_at_call 98; refine (rnew_any M _ _ _ ls HLS.out (HM.out _ (((Ext.refl w).alloc _).trans HE2.out)) hl2).mono ?_; rintro e w3 ⟨v3, rfl, hE3, hr3⟩; obtain ⟨ab, nb, cb, ae, ne, ce, rfl, -, -⟩ := rh_shape hr3; have hA : w3.heap[w.heap.size]? = some (.cells #[.slice none 0 0, .slice none 0 0] 74 (0, 0)) := ((HE2.out.trans hE3).block _ (by simp)).trans (heap_alloc_new w _); obtain ⟨r1, r2⟩ : (w3.agg? ⟨w.heap.size, 0, none⟩ 2).isSome = true ∧ w3.loose w.heap.size = true := ⟨by rw [World.agg?_row (n := 2) hA rfl]; rfl, by simp [World.loose, hA]⟩; have h2 := twos_ok ab ae nb cb ne ce; have HA := Lib.hid hA; have HE3 := Lib.hid hE3; have HR3 := Lib.hid hr3; clear hE3 hr3 hA))
  (try simp only [Exit.inBlock, Exit.then])
  refine bodyPost_ret (resTCT rfl _ _ ⟨w.heap.size, 0, none⟩ (.agg #[.slice ab nb cb, .slice ae ne ce]) rfl ?_) rfl ?_
  · exact run_loadVar_agg 74 2 Try.isAgg74 Try.sizeOf74 _ _ _ (World.agg?_putAgg_same _ _ _ _ r1 rfl)
  · have hE : Ext w w3 := (((Ext.refl w).alloc _).trans HE2.out).trans HE3.out
    have hs : w.heap.size + 1 ≤ w1.heap.size := by simpa using hs1
    have hH3 := HH2.out.ext HE3.out
    refine ⟨hb, ib2, bb2, mb, _, rfl, hE.putAgg _ _ (Nat.le_refl _), hH3.keep (fun b _ hb' => World.putAgg_other _ _ _ ?_) (by simp), by omega, by omega, by omega, by omega, HR3.out.off HA.out fun b hb => World.putAgg_other _ _ _ hb⟩
    rcases hb' with rfl | rfl | rfl | rfl | h
    · simp only; omega
    · simp only; omega
    · simp only; omega
    · simp only; omega
    · exact h.elim
end Go.Proofs
