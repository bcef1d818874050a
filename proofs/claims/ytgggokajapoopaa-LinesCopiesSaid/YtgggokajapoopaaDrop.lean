/- Drop: what it answers, and what the cache is then. -/
import Derived.Test.YtgggokajapoopaaDel
namespace Go
def Lns.drop (c : Lns) (n : Int) : Lns × Bool :=
  match (c.of n).findIdx? (·.num == n) with
  | some j => (c.setSet (c.setNo n) ((c.of n).eraseIdx j), true)
  | none => (c, false)
end Go
namespace Go.Proofs
open Go.RowKit
set_option maxRecDepth 100000 in
set_option maxHeartbeats 400000 in
theorem drop_no (B S : Nat) (vs : Array Value) (os : Nat → Option Nat) (c : Lns) (n : Int) (w : World) (hb : LinesBody w B S vs os c) (h0 : 0 ≤ n) (h1 : n < 4294967296)
    (HI : Hid (idxOf n (c.of n) = -1)) :
    Calls Try.prog 36 #[.pointer (some ⟨B, 0, none⟩), .int .u32 n] w fun e w' => e = .returned (.bool false) ∧ Ext w w' := by
  go_enter Try.func36, Try.ntmps36
  go_wp2_with fail
  refine (none_body hb).mono ?_
  rintro e w1 ⟨rfl, rfl⟩
  go_wp2_with fail
  refine (of_body hb n h0 h1).mono ?_
  rintro e w1 ⟨rfl, hE⟩
  rw [HI.out]
  go_wp2_with fail
  go_ret
  exact ⟨rfl, hE⟩
/-- What Drop leaves where a line is dropped. -/
def DropYes (w : World) (S i g cap : Nat) (L : List Ln) (e : Ending) (w' : World) : Prop :=
  e = .returned (.bool true) ∧ ∃ W w1 cur2, Ext w W ∧ cur2.size = cap * 18 ∧ cur2.toList.take (L.length * 18) = flat Ln.cells L ∧ w1.heap[g]? = some (.cells cur2 39 (0, 0)) ∧ W.grownBy w1 (some g) ∧ w' = w1.setCell ⟨S, i, none⟩ (.slice (some ⟨g, 0, none⟩) L.length cap)
set_option maxRecDepth 100000 in
set_option maxHeartbeats 400000 in
theorem drop_yes (B S : Nat) (vs : Array Value) (os : Nat → Option Nat) (c : Lns) (n : Int) (w : World) (hb : LinesBody w B S vs os c) (h0 : 0 ≤ n) (h1 : n < 4294967296)
    (g cap i : Nat) (cur : Array Value) (hS : S < w.heap.size) (hc : w.cell? ⟨S, c.setNo n, none⟩ = some (.slice (some ⟨g, 0, none⟩) (c.of n).length cap)) (hf : w.frozen? ⟨S, c.setNo n, none⟩ = false)
    (HG : Hid (w.heap[g]? = some (.cells cur 39 (0, 0)))) (hcl : (c.of n).length ≤ cap) (HS : Hid (cur.size = cap * 18)) (HX : Hid (cur.toList.take ((c.of n).length * 18) = flat Ln.cells (c.of n))) (HgS : Hid (g ≠ S)) (hg0 : g < w.heap.size)
    (HI : Hid (idxOf n (c.of n) = (i : Int))) (hil : i < (c.of n).length) (hl8 : (c.of n).length ≤ 8) :
    Calls Try.prog 36 #[.pointer (some ⟨B, 0, none⟩), .int .u32 n] w (DropYes w S (c.setNo n) g cap ((c.of n).eraseIdx i)) := by
  go_enter Try.func36, Try.ntmps36
  go_wp2_with fail
  refine (none_body hb).mono ?_
  rintro e w1 ⟨rfl, rfl⟩
  go_wp2_with fail
  refine (of_body hb n h0 h1).mono ?_
  rintro e w1 ⟨rfl, hE⟩
  rw [HI.out]
  obtain ⟨r1, r2, r3, r5, r4⟩ := hE.rules
  go_wp2_with fail
  refine (delete_any g cap i cur (c.of n) w1 ((hE.block g hg0).trans HG.out) hcl HS.out HX.out hil hl8).mono ?_
  rintro e w2 ⟨cur2, rfl, hs2, hx2, hg2, hgr⟩
  obtain ⟨c1, c2⟩ := grownBy_cell hgr (b := S) (hE.lt hS) (fun e => HgS.out (by simpa using e)) (c.setNo n)
  have H1 := Lib.hid hs2
  have H2 := Lib.hid hx2
  have H3 := Lib.hid hg2
  clear hs2 hx2 hg2
  go_wp2_with fail
  go_ret
  exact ⟨rfl, w1, w2, cur2, hE, H1.out, H2.out, H3.out, hgr, rfl⟩
/-- Drop: the answer, the cache, and that all else lies as it lay. -/
def DropPost (w : World) (p : Value) (c : Lns) (F : Nat → Prop) (n : Int) (e : Ending) (w' : World) : Prop :=
  e = .returned (.bool (c.drop n).2) ∧ ∃ F', LinesAt w' p (c.drop n).1 F' ∧ Chg F w w' ∧ Sub w F F'
theorem drop_any (p : Value) (c : Lns) (F : Nat → Prop) (n : Int) (w : World) (h : LinesAt w p c F) (h0 : 0 ≤ n) (h1 : n < 4294967296) :
    Calls Try.prog 36 #[p, .int .u32 n] w (DropPost w p c F n) := by
  have hat := h
  obtain ⟨B, S, vs, os, rfl, hb, hF⟩ := h
  have hok := hb.ok
  have hi := Lns.setNo_lt hok n
  obtain ⟨v, hv, hs, hc⟩ := hb.set n
  have hS : S < w.heap.size := hb.lt (.inr (.inl rfl))
  have hlen := Lns.of_len hok n
  have hw8 := hok.w8
  cases hidx : (c.of n).findIdx? (·.num == n) with
  | some j =>
    have HI : Hid (idxOf n (c.of n) = (j : Int)) := by unfold Hid idxOf; rw [hidx]
    obtain ⟨hj, -, -⟩ := List.findIdx?_eq_some_iff_getElem.1 hidx
    rcases hs with ⟨h0, _⟩ | ⟨g, cap, cur, hog, rfl, hg, hcl, hcm, hcs, hx⟩
    · rw [h0] at hj; simp at hj
    · have hgl : g < w.heap.size := (Array.getElem?_eq_some_iff.1 hg).1
      have hgB : g ≠ B ∧ g ≠ S := ⟨(hb.apart _ g hog).1, (hb.apart _ g hog).2.1⟩
      refine (drop_yes B S vs os c n w hb h0 h1 g cap j cur hS hc (frozen_of_row w S _ vs 26 hb.hS) hg hcl hcs hx hgB.2 hgl HI hj (by omega)).mono ?_
      rintro e w' ⟨rfl, W, w1, cur2, hE, hs2, hx2, hg2, hgr, rfl⟩
      have hdrop : c.drop n = (c.setSet (c.setNo n) ((c.of n).eraseIdx j), true) := by simp only [Lns.drop, hidx]
      refine ⟨by rw [hdrop], ?_⟩
      rw [hdrop]
      have hw1 : ∀ k, k < w.heap.size → k ≠ g → w1.heap[k]? = w.heap[k]? := fun k hk hne => (hgr.block k (hE.lt hk) (by simpa using hne)).trans (hE.block k hk)
      have hoth : ∀ k, k < w.heap.size → k ≠ S → k ≠ g → (w1.setCell ⟨S, c.setNo n, none⟩ (.slice (some ⟨g, 0, none⟩) ((c.of n).eraseIdx j).length cap)).heap[k]? = w.heap[k]? := fun k hk hne hn => by
        rw [heap_setCell_other _ _ _ _ (by simpa using hne)]; exact hw1 k hk hn
      have hS1 : w1.heap[S]? = some (.cells vs 26 (0, 0)) := (hw1 S hS (Ne.symm hgB.2)).trans hb.hS
      have hle : ((c.of n).eraseIdx j).length ≤ (c.of n).length := by rw [List.length_eraseIdx]; split <;> omega
      have hset : SetAt (w1.setCell ⟨S, c.setNo n, none⟩ (.slice (some ⟨g, 0, none⟩) ((c.of n).eraseIdx j).length cap)) (.slice (some ⟨g, 0, none⟩) ((c.of n).eraseIdx j).length cap) ((c.of n).eraseIdx j) (some g) :=
        .inr ⟨g, cap, cur2, rfl, rfl, by rw [heap_setCell_other _ _ _ _ (by simpa using hgB.2)]; exact hg2, by omega, hcm, hs2, hx2⟩
      obtain ⟨F', hF', hsub⟩ := hb.updAt hF hi (L' := (c.of n).eraseIdx j) (by omega) (heap_setCell_same w1 S _ vs 26 _ hS1) (hoth B (hb.lt (.inl rfl)) hb.bs (Ne.symm hgB.1))
        (fun k g' hk hg' => hoth g' (hb.lt (.inr (.inr ⟨k, hg'⟩))) (fun e => (hb.apart k g' hg').2.1 e) (fun e => hk (hb.inj k _ g' hg' (e ▸ hog))))
        hset (fun g' hg' => by cases hg'; exact .inl hog)
      refine ⟨F', hF', ?_, hsub⟩
      refine ⟨hgr.os.trans hE.os, hgr.tape.trans hE.tape, hgr.output.trans hE.output, ?_, fun k hk hn => hoth k hk (fun e => hn ((hF k).2 (.inr (.inl e)))) (fun e => hn ((hF k).2 (.inr (.inr ⟨_, e ▸ hog⟩))))⟩
      have : (w1.setCell ⟨S, c.setNo n, none⟩ (.slice (some ⟨g, 0, none⟩) ((c.of n).eraseIdx j).length cap)).heap.size = w1.heap.size := by simp [World.setCell]
      rw [this]; exact Nat.le_trans hE.size hgr.size
  | none =>
    have HI : Hid (idxOf n (c.of n) = -1) := by unfold Hid idxOf; rw [hidx]
    refine (drop_no B S vs os c n w hb h0 h1 HI).mono ?_
    rintro e w' ⟨rfl, hE⟩
    have hdrop : c.drop n = (c, false) := by simp only [Lns.drop, hidx]
    refine ⟨by rw [hdrop], F, ?_, hE.chg F, fun b hb => .inl hb⟩
    rw [hdrop]
    exact hat.ext hE
end Go.Proofs
