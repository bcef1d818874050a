/- The law LinesRoom, walked. -/
import Derived.Test.YtgggokajapoopaaRoomP
import Derived.Test.YtgggokajapoopaaLTells
namespace Go.Proofs
open Go.RowKit
/-- Between two calls of the script. -/
def RmInv (w : World) (pa : Value) (n ways : Int) (W : World) : Prop :=
  ∃ c r F, Ext w W ∧ LinesAt W pa c F ∧ Rel c r ∧ r.sets = n ∧ r.ways = ways ∧ ∀ b, F b → w.heap.size ≤ b
theorem rm_drop {w W : World} {pa : Value} {n ways : Int} (h : RmInv w pa n ways W) (k : Int) (h0 : 0 ≤ k) (h1 : k < 4294967296) : Calls Try.prog 36 #[pa, .int .u32 k] W fun e w' => (∃ b, e = .returned (.bool b)) ∧ RmInv w pa n ways w' := by
  obtain ⟨c, r, F, hE, ha, hr, hs, hw, hF⟩ := h
  refine (drop_any pa c F k W ha h0 h1).mono ?_
  rintro e w6 ⟨rfl, F6, h6, hC6, hS6⟩
  exact ⟨⟨_, rfl⟩, _, _, F6, hE.of_chg hC6 hF, h6, (hr.drop k).1, hs, hw, hS6.above hF hE.size⟩
theorem rm_put {w W : World} {pa : Value} {n ways : Int} (h : RmInv w pa n ways W) (l : Ln) : Calls Try.prog 35 #[pa, .agg l.cells] W fun e w' => (∃ b, e = .returned (.int .i64 b)) ∧ RmInv w pa n ways w' := by
  obtain ⟨c, r, F, hE, ha, hr, hs, hw, hF⟩ := h
  refine (put_any pa c F l W ha).mono ?_
  rintro e w6 ⟨rfl, F6, h6, hC6, hS6⟩
  exact ⟨⟨_, rfl⟩, _, _, F6, hE.of_chg hC6 hF, h6, (hr.put l).1, by rw [Rf.put_sets, hs], by rw [Rf.put_ways, hw], hS6.above hF hE.size⟩
theorem Act10.st_cell {w : World} {b o : Nat} {x : Act10} (h : w.agg? ⟨b, o, none⟩ 19 = some x.cells) : w.cell? ⟨b, o + 2, none⟩ = some (.int .i64 x.line.st) := by
  have := World.agg?_cell h (j := 2) (by omega)
  rw [show (⟨b, o, none⟩ : Addr).add 2 = ⟨b, o + 2, none⟩ from rfl] at this
  rw [this]
  simp [Act10.cells, Ln.cells]
/-- The box of the line that is put. -/
structure RmBox (W : World) (A : Nat) (x : Act10) : Prop where
  a0 : W.cell? ⟨A, 1, none⟩ = some (.int .u32 x.line.num)
  a1 : W.cell? ⟨A, 2, none⟩ = some (.int .i64 x.line.st)
  ag : W.agg? ⟨A, 1, none⟩ 18 = some x.line.cells
  lt : A < W.heap.size
theorem RmBox.ext {W W' : World} {A : Nat} {x : Act10} (h : RmBox W A x) (hE : Ext W W') : RmBox W' A x := by
  have h1 := h.lt
  exact ⟨(hE.cell h1).trans h.a0, (hE.cell h1).trans h.a1, (hE.agg h1).trans h.ag, Nat.lt_of_lt_of_le h1 hE.size⟩
theorem RmBox.start (w : World) (x : Act10) : RmBox (w.alloc (.cells x.cells 57)) w.heap.size x := by
  have h := World.agg?_alloc_at w x.cells 57 w.heap.size 19 rfl x.cells_size
  exact ⟨by simpa using (Act10.sub h).2.1, by simpa using Act10.st_cell h, by simpa using (Act10.sub h).2.2, by simp⟩
theorem Rel.mem_flat {c : Lns} {r : Rf} (h : Rel c r) {y : Ln} (hy : y ∈ c.flat) : y ∈ r.L := by
  rw [h.flat] at hy
  obtain ⟨s, _, hs⟩ := List.mem_flatMap.1 hy
  exact (List.mem_filter.1 hs).1
/-- What LinesRoom keeps behind its first loop. -/
structure RoomSt (W0 W : World) (pa : Value) (A : Nat) (x : Act10) (c : Lns) (r : Rf) (F : Nat → Prop) (vw : Value) (Lw : List Ln) (ow : Option Nat) : Prop where
  ext : Ext W0 W
  at_ : LinesAt W pa c F
  rel : Rel c r
  box : RmBox W A x
  hA : A < W0.heap.size
  was : SetAt W vw Lw ow
  fr : ∀ b, F b → W0.heap.size ≤ b
  fo : ∀ g, ow = some g → ¬ F g
theorem RoomSt.keep {W0 W W' : World} {pa : Value} {A : Nat} {x : Act10} {c : Lns} {r : Rf} {F : Nat → Prop} {vw : Value} {Lw : List Ln} {ow : Option Nat} (h : RoomSt W0 W pa A x c r F vw Lw ow) (hE : Ext W W') : RoomSt W0 W' pa A x c r F vw Lw ow :=
  ⟨h.ext.trans hE, h.at_.ext hE, h.rel, h.box.ext hE, h.hA, h.was.ext hE, h.fr, h.fo⟩
theorem RoomSt.chg {W0 W W' : World} {pa : Value} {A : Nat} {x : Act10} {c c' : Lns} {r r' : Rf} {F F' : Nat → Prop} {vw : Value} {Lw : List Ln} {ow : Option Nat} (h : RoomSt W0 W pa A x c r F vw Lw ow) (hC : Chg F W W') (hS : Sub W F F') (hat : LinesAt W' pa c' F') (hr : Rel c' r') : RoomSt W0 W' pa A x c' r' F' vw Lw ow := by
  have hE := h.ext.of_chg hC h.fr
  refine ⟨hE, hat, hr, ?_, h.hA, h.was.keep fun b hb => hC.block b (h.was.lt hb) (h.fo b hb), hS.above h.fr h.ext.size, fun g hg hf => ?_⟩
  · obtain ⟨r1, -, r3, -, r4⟩ := hC.rules
    have hn : ¬ F A := fun hf => by have := h.fr A hf; have := h.hA; omega
    have h1 := h.box.lt
    exact ⟨(r1 _ _ h1 hn).trans h.box.a0, (r1 _ _ h1 hn).trans h.box.a1, (r3 _ _ _ h1 hn).trans h.box.ag, by omega⟩
  · rcases hS g hf with h1 | h1
    · exact h.fo g hg h1
    · have := h.was.lt hg; omega
theorem LnBox.chg {W W' : World} {b : Nat} {l : Ln} {F : Nat → Prop} (h : LnBox W b l) (hn : ¬ F b) (hC : Chg F W W') : LnBox W' b l := by
  obtain ⟨-, -, r3, -, r4⟩ := hC.rules
  exact ⟨(r3 _ _ _ h.lt hn).trans h.ag, Nat.lt_of_lt_of_le h.lt r4⟩
theorem Sub.not {W : World} {F F' : Nat → Prop} (h : Sub W F F') {b : Nat} (hn : ¬ F b) (hl : b < W.heap.size) : ¬ F' b := fun hf => (h b hf).elim hn (fun h => by omega)
theorem LnBox.put {W : World} {b : Nat} {l : Ln} (h : LnBox W b l) (v : Ln) : LnBox (W.putAgg ⟨b, 0, none⟩ v.cells) b v :=
  ⟨World.agg?_putAgg_same W _ _ 18 (by rw [h.ag]; rfl) v.cells_size, by rw [World.size_putAgg]; exact h.lt⟩
theorem RoomSt.putG {W0 W : World} {pa : Value} {A : Nat} {x : Act10} {c : Lns} {r : Rf} {F : Nat → Prop} {vw : Value} {Lw : List Ln} {ow : Option Nat} (h : RoomSt W0 W pa A x c r F vw Lw ow) {G : Nat} (v : Ln) (h0 : W0.heap.size ≤ G) (hA : A ≠ G) (hF : ¬ F G) (ho : ow ≠ some G) :
    RoomSt W0 (W.putAgg ⟨G, 0, none⟩ v.cells) pa A x c r F vw Lw ow := by
  have hk : ∀ b, b ≠ G → (W.putAgg ⟨G, 0, none⟩ v.cells).heap[b]? = W.heap[b]? := fun b hb => W.putAgg_other _ _ hb
  refine ⟨h.ext.putAgg _ _ h0, h.at_.keep fun b hb => hk b fun e => hF (e ▸ hb), h.rel, ?_, h.hA, h.was.keep fun b hb => hk b fun e => ho (by rw [hb, e]), h.fr, h.fo⟩
  exact ⟨(World.cell?_of_block (w := W) (a := ⟨A, 1, none⟩) (hk A hA)).trans h.box.a0, (World.cell?_of_block (w := W) (a := ⟨A, 2, none⟩) (hk A hA)).trans h.box.a1, (World.agg?_of_block (a := ⟨A, 1, none⟩) (hk A hA)).trans h.box.ag, by rw [World.size_putAgg]; exact h.box.lt⟩
set_option maxRecDepth 100000 in
set_option maxHeartbeats 2000000 in
theorem lawRoom (s ways : Int) (M : List Act10) (a : Option Addr) (cap : Nat) (x : Act10) (pick : Int) (w : World) (hM : Row 19 Act10.cells w a M) :
    Calls Try.prog 7 #[.int .i64 s, .int .i64 ways, .slice a M.length cap, .agg x.cells, .int .i64 pick] w fun e w' => e = .returned (.bool true) ∧ Ext w w' := by
  by_cases hg : right s ways = true ∧ M.length ≤ 100 ∧ 1 ≤ x.line.st ∧ x.line.st ≤ 3
  · obtain ⟨hr, hl, hs1, hs3⟩ := hg
    have hl' : decide ((100 : Int) < (M.length : Int)) = false := by simp; omega
    obtain ⟨n, k', rfl, rfl, hn, hk1, hk8⟩ := right_split hr
    have hn' : 1 ≤ n ∧ n ≤ 64 := by simp only [pow2, Bool.or_eq_true, beq_iff_eq] at hn; omega
    obtain ⟨xa0, xa1, xag, xlt⟩ := RmBox.start w x
    have HX := Lib.hid (RmBox.start w x)
    go_enter Try.func7, Try.ntmps7
    go_wp2_with (go_at_call 24; refine (right_is _ _ _ hr _).mono ?_; rintro e w' ⟨rfl, rfl⟩)
    refine (new_any n k' _ hn hk1 hk8).mono ?_
    rintro e w1 ⟨p, rfl, hE1, F1, h1, hF1⟩
    obtain ⟨pa, rfl⟩ : ∃ pa, p = .pointer pa := by obtain ⟨B, _, _, _, rfl, _⟩ := h1; exact ⟨_, rfl⟩
    have HM : Hid (∀ W, Ext (w.alloc (.cells x.cells 57)) W → Row 19 Act10.cells W a M) := fun W hE => hM.ext (((Ext.refl w).alloc _).trans hE)
    obtain ⟨⟨hx0, hx1⟩, -⟩ := x.line.ok
    have hA0 : w.heap.size < (w.alloc (.cells x.cells 57)).heap.size := xlt
    have hW0 : Ext w (w.alloc (.cells x.cells 57)) := (Ext.refl w).alloc _
    have hstart : RmInv (w.alloc (.cells x.cells 57)) (.pointer pa) n k' w1 := ⟨_, ⟨n, k', []⟩, F1, hE1, h1, Rel.new n k' hn' ⟨hk1, hk8⟩, rfl, rfl, hF1⟩
    clear hM xa0 xa1 xag xlt h1 hF1
    go_wp2_with fail
    generalize hw0 : w.alloc (.cells x.cells 57) = W0 at *
    clear hw0
    go_loopw [13] (fun i wr => ∃ k : Nat, k ≤ M.length ∧ i = .int .i64 k ∧ RmInv W0 (.pointer pa) n k' wr) (fun i _ => M.length - (intOf i).toNat)
    case atStart => exact ⟨0, Nat.zero_le _, rfl, hstart⟩
    case round =>
      obtain ⟨k, hk, rfl, hI⟩ := hrel
      have HI := Lib.hid hI
      obtain ⟨c, r, F, hE, hat, hrel, hrs, hrw, hF⟩ := hI
      by_cases hlt : k < M.length
      · obtain ⟨y, hy⟩ : ∃ y, M[k]? = some y := ⟨M[k], by simp [hlt]⟩
        obtain ⟨b, off, rfl, hg⟩ := HM.out wr hE k y hy
        have hbl : b < wr.heap.size := World.agg?_lt hg
        have hki : (k : Int) < (M.length : Int) := by omega
        obtain ⟨y0, y1, y2⟩ := Act10.sub hg
        obtain ⟨⟨hn0, hn1'⟩, -⟩ := y.line.ok
        clear hy hat hrel hF
        by_cases hw0 : y.what = 0
        · go_wp2_with fail
          refine (rm_put HI.out y.line).mono ?_
          rintro e w6 ⟨⟨bb, rfl⟩, hI⟩
          go_wp2_with fail
          go_roundw
          case rel => exact ⟨k + 1, by omega, by go_num, hI⟩
          case measure => simp [intOf]; omega
        · go_wp2_with fail
          refine (rm_drop HI.out y.line.num hn0 hn1').mono ?_
          rintro e w6 ⟨⟨bb, rfl⟩, hI⟩
          go_wp2_with fail
          go_roundw
          case rel => exact ⟨k + 1, by omega, by go_num, hI⟩
          case measure => simp [intOf]; omega
      · have hkk : k = M.length := by omega
        subst hkk
        clear HI
        have hfl : c.flat.length ≤ 1000 := Nat.le_trans hrel.ok.flat_le (by decide)
        have HAT := Lib.hid hat
        have HQ := Lib.hid hrel
        have HF := Lib.hid hF
        clear hat hrel hF
        go_wp2_with fail
        refine (all_list _ (some c) F _ HAT.out hfl).mono ?_
        rintro e w2 ⟨vw, ow, rfl, hE2, hsw, hfw⟩
        have hsw' := hsw
        obtain ⟨aw, cw, rfl, -⟩ := hsw.row Ln.okCells
        have hR : RoomSt W0 w2 (.pointer pa) w.heap.size x c r F (.slice aw c.flat.length cw) c.flat ow := ⟨hE.trans hE2, HAT.out.ext hE2, HQ.out, HX.out.ext (hE.trans hE2), hA0, hsw', HF.out, fun g hg hf => by have := HAT.out.lt hf; have := hfw g hg; omega⟩
        have HR := Lib.hid hR
        obtain ⟨xa0, xa1, xag, xlt⟩ := hR.box
        clear hsw hsw' hR
        go_wp2_with fail
        refine (put_any _ c F x.line _ HR.out.at_).mono ?_
        rintro e w3 ⟨rfl, F3, h3, hC3, hS3⟩
        obtain ⟨hq1, hq2⟩ := HQ.out.put x.line
        have hR3 := HR.out.chg hC3 hS3 h3 hq1
        have HR3 := Lib.hid hR3
        rw [hq2]
        clear xa0 xa1 xag xlt
        obtain ⟨xa0, xa1, xag, xlt⟩ := hR3.box
        clear hR3
        rcases Rf.put_code r x.line ⟨hs1, hs3⟩ with hcode | ⟨hcode, -⟩
        · rw [hcode]
          obtain ⟨hlk, hly⟩ := HQ.out.put_ok x.line ⟨hs1, hs3⟩ hcode
          have HLK := Lib.hid hlk
          obtain ⟨z, hz⟩ : ∃ z, z = Ln.zero := ⟨_, rfl⟩
          have HLY : Hid (∀ y ∈ c.flat, y.num ≠ x.line.num → y ≠ z → lookup y.num (r.put x.line).1.L = some y) := fun y hy h1 _ => hly y (Rel.mem_flat HQ.out hy) h1
          have HRT := Lib.hid (HR3.out.keep ((Ext.refl w3).alloc (.cells Ln.zero.cells 39)))
          have HG : Hid (LnBox (w3.alloc (.cells Ln.zero.cells 39)) w3.heap.size z) := by rw [hz]; exact LnBox.start w3 Ln.zero
          clear hlk hly hz
          go_wp2_with (go_at_call 34; refine (num_is _ _).mono ?_; rintro e w' ⟨rfl, rfl⟩)
          clear xa0 xa1 xag xlt
          obtain ⟨xa0, xa1, xag, xlt⟩ := HRT.out.box
          obtain ⟨gg, gl⟩ := HG.out
          refine (find_any _ _ _ x.line.num _ HRT.out.at_ hx0 hx1).mono ?_
          rintro e w8 ⟨rfl, hE8⟩
          rw [HRT.out.rel.lookup, HLK.out]
          simp only [lnOr, Option.getD_some, Option.isSome_some]
          have HRU := Lib.hid (HRT.out.keep (hE8.alloc (.cells x.line.cells 39)))
          have HGU := Lib.hid (HG.out.ext (hE8.alloc (.cells x.line.cells 39)))
          clear xa0 xa1 xag xlt gg gl
          obtain ⟨xa0, xa1, xag, xlt⟩ := (HRT.out.keep hE8).box
          obtain ⟨gg, gl⟩ := HG.out.ext hE8
          go_wp2_with (go_at_call 34; refine (num_is _ _).mono ?_; rintro e w' ⟨rfl, rfl⟩)
          have hE9 := (Ext.refl (w8.alloc (.cells x.line.cells 39)))
          generalize hw9 : w8.alloc (.cells x.line.cells 39) = w9 at *
          clear hw9 xa0 xa1 xag xlt gg gl
          go_loopw [21] (fun i wr => ∃ k : Nat, k ≤ c.flat.length ∧ i = .int .i64 k ∧ Ext w9 wr) (fun i _ => c.flat.length - (intOf i).toNat)
          case atStart => exact ⟨0, Nat.zero_le _, rfl, Below.refl _ _⟩
          case round =>
            obtain ⟨k, hk, rfl, hE⟩ := hrel
            have hRw := HRU.out.keep hE
            obtain ⟨xa0, xa1, xag, xlt⟩ := hRw.box
            obtain ⟨gg, gl⟩ := HGU.out.ext hE
            have HRW := Lib.hid hRw
            obtain ⟨aw', cw', ew, hroww⟩ := hRw.was.row Ln.okCells
            cases ew
            by_cases hlt : k < c.flat.length
            · obtain ⟨y, hy⟩ : ∃ y, c.flat[k]? = some y := ⟨c.flat[k], by simp [hlt]⟩
              have hym := Lib.hid (List.mem_of_getElem? hy)
              obtain ⟨b, off, rfl, hg⟩ := hroww k y hy
              have hbl : b < wr.heap.size := World.agg?_lt hg
              have hki : (k : Int) < (c.flat.length : Int) := by omega
              have hc0 : wr.cell? ⟨b, off + k * 18, none⟩ = some (.int .u32 y.num) := by obtain ⟨_, _, e, h⟩ := hroww.cell hy (j := 0) (by omega); cases e; rw [Nat.add_zero] at h; rw [h]; simp [go_sem]
              obtain ⟨⟨hn0, hn1'⟩, -⟩ := y.ok
              clear hy hroww hRw
              go_wp2_with fail
              refine (find_any _ _ _ y.num _ HRW.out.at_ hn0 hn1').mono ?_
              rintro e wf ⟨rfl, hEf⟩
              rw [HRW.out.rel.lookup]
              clear xa0 xa1 xag xlt gg gl
              obtain ⟨xa0, xa1, xag, xlt⟩ := (HRW.out.keep hEf).box
              obtain ⟨gg, gl⟩ := (HGU.out.ext hE).ext hEf
              have hgf : wf.agg? ⟨b, off + k * 18, none⟩ 18 = some y.cells := (hEf.agg hbl).trans hg
              have hcf : wf.cell? ⟨b, off + k * 18, none⟩ = some (.int .u32 y.num) := (hEf.cell hbl).trans hc0
              have hbf : b < wf.heap.size := Nat.lt_of_lt_of_le hbl hEf.size
              have hEr := Lib.hid ((hE.trans hEf))
              by_cases hq : y.num = x.line.num
              · have hd : (y.num == x.line.num) = true := by simp [hq]
                have hdn : (y.num != x.line.num) = false := by simp [hq]
                generalize lookup y.num (r.put x.line).1.L = ol at *
                go_wp2_with fail
                go_quiet (fail)
                go_wp2_with fail
                go_roundw
                case rel => exact ⟨k + 1, by omega, by go_num, (hEr.out.alloc _).drewN _⟩
                case measure => simp [intOf]; omega
              · have hd : (y.num == x.line.num) = false := by simp [hq]
                have hdn : (y.num != x.line.num) = true := by simp [hq]
                by_cases hq2 : y = z
                · subst hq2
                  generalize lookup y.num (r.put x.line).1.L = ol at *
                  go_wp2_with fail
                  go_quiet (fail)
                  go_wp2_with fail
                  go_roundw
                  case rel => exact ⟨k + 1, by omega, by go_num, (hEr.out.alloc _).drewN _⟩
                  case measure => simp [intOf]; omega
                · have hd2 : decide (y = z) = false := by simp [hq2]
                  rw [HLY.out y hym.out hq hq2]
                  simp only [lnOr, Option.getD_some, Option.isSome_some]
                  go_wp2_with fail
                  go_quiet (fail)
                  go_wp2_with fail
                  go_roundw
                  case rel => exact ⟨k + 1, by omega, by go_num, (hEr.out.alloc _).drewN _⟩
                  case measure => simp [intOf]; omega
            · have hkk : k = c.flat.length := by omega
              subst hkk
              clear hroww hRw
              go_wp2_with fail
              refine (works_any _).mono ?_
              rintro e wz ⟨rfl, hEz⟩
              go_wp2_with fail
              go_ret
              exact ⟨rfl, (hW0.trans HRW.out.ext).trans hEz⟩
        · obtain ⟨-, hrr, -⟩ := (Rf.put_code r x.line ⟨hs1, hs3⟩).resolve_left (by rw [hcode]; decide)
          rw [hcode]
          rw [hrr] at hq1
          obtain ⟨v, hvic, hvL, hvs, hdr, hput0, hkeepL⟩ := hq1.make_room x.line ⟨hs1, hs3⟩ pick hcode
          have hvs2 := hvs
          rw [hrs] at hvs2
          obtain ⟨⟨hv0, hv1⟩, -⟩ := v.ok
          have hg3 : ¬ F3 w3.heap.size := fun hf => by have := h3.lt hf; omega
          have hR4 := HR3.out.keep ((Ext.refl w3).alloc (.cells Ln.zero.cells 39))
          rw [hrr] at hR4
          have HR4 := Lib.hid hR4
          have HG4 := Lib.hid (LnBox.start w3 Ln.zero)
          generalize hc1 : (c.put x.line).1 = c1 at *
          have HVIC := Lib.hid hvic
          have HPL := Lib.hid hput0
          have HKL := Lib.hid hkeepL
          have hq1d := (hq1.drop v.num).1
          have HQD := Lib.hid hq1d
          clear hq1 h3 hC3 hR4 hput0 hkeepL hvic
          go_wp2_with (go_at_call 34; refine (num_is _ _).mono ?_; rintro e w' ⟨rfl, rfl⟩)
          refine (victim_any _ c1 F3 x.line.num pick _ HR4.out.at_ hx0 hx1).mono ?_
          rintro e w5 ⟨rfl, hE5⟩
          rw [HVIC.out]
          simp only [lnOr, Option.getD_some, Option.isSome_some]
          have HR5 := Lib.hid (HR4.out.keep (hE5.alloc (.cells v.cells 39)))
          have HG5 := Lib.hid (HG4.out.ext (hE5.alloc (.cells v.cells 39)))
          have HV5 := Lib.hid (LnBox.start w5 v)
          have hg5 : ¬ F3 w5.heap.size := fun hf => by have := (HR4.out.keep hE5).at_.lt hf; omega
          clear xa0 xa1 xag xlt
          obtain ⟨xa0, xa1, xag, xlt⟩ := HR5.out.box
          obtain ⟨vg, vl⟩ := HV5.out
          have hvc : (w5.alloc (.cells v.cells 39)).cell? ⟨w5.heap.size, 0, none⟩ = some (.int .u32 v.num) := by simp [go_sem]
          have hmod : v.num.tmod (n : Int) = x.line.num.tmod (n : Int) := by rw [Int.tmod_eq_emod_of_nonneg hv0, Int.tmod_eq_emod_of_nonneg hx0]; exact hvs2
          have hwr : IntKind.u32.wrap (n : Int) = (n : Int) := IntWalk.u32_in _ (by omega)
          have hnz : ((n : Int) = 0) = False := by simp; omega
          have hnz2 : (n = 0) = False := by simp; omega
          go_wp2_with fail
          generalize hW5 : w5.alloc (.cells v.cells 39) = W5 at *
          have hmb : ((v.num.tmod (n : Int)) != (x.line.num.tmod (n : Int))) = false := by simp [hmod]
          go_region_held3 (fun W => W.cell? ⟨w5.heap.size, 0, none⟩ = some (.int .u32 v.num) ∧ W.cell? ⟨w.heap.size, 1, none⟩ = some (.int .u32 x.line.num))
            ((first | exact ⟨hvc, xa0⟩ | exact ⟨hvc', xa0'⟩))
            (first | (go_at_call 36; refine (drop_any _ c1 F3 v.num _ (HR5.out.keep (Ext.refl W5).drew).at_ hv0 hv1).mono ?_; rintro e w6 ⟨rfl, F6, h6, hC6, hS6⟩; rw [hdr]; have hR6 := (HR5.out.keep (Ext.refl W5).drew).chg hC6 hS6 h6 (hq1d); obtain ⟨xa0', xa1', xag', xlt'⟩ := hR6.box; have hvc' : w6.cell? ⟨w5.heap.size, 0, none⟩ = some (.int .u32 v.num) := (hC6.rules.1 _ _ vl hg5).trans hvc))
          rename_i hHeld
          have hq1d2 := (HQD.out.put x.line).1
          clear hHeld hvc hvc' xa0' xa1' xag' xlt' xa0 xa1 xag xlt vg vl h6 hmb hwr hnz hnz2 hmod
          have HR6 := Lib.hid hR6
          have hG6 := ((HG5.out.ext (Ext.refl W5).drew).chg hg3 hC6)
          have hV6 := ((HV5.out.ext (Ext.refl W5).drew).chg hg5 hC6)
          have hG6n : w3.heap.size ≠ w5.heap.size := by have := hE5.size; simp at this; omega
          have hl6 : w3.heap.size < w6.heap.size := hG6.lt
          have hg6 : ¬ F6 w3.heap.size := Sub.not hS6 hg3 HG5.out.lt
          have hlo : w6.loose w3.heap.size = true := by
            rw [hC6.rules.2.2.2.1 _ (by exact HG5.out.lt) hg3, World.loose_drew, ← hW5, World.loose_alloc_past _ _ _ (by have := hE5.size; simp at this; omega), World.loose_of_block (hE5.block _ (by simp))]
            exact World.loose_alloc_at _ _ _ _ rfl
          have hAG : w.heap.size ≠ w3.heap.size := by have := HR3.out.box.lt; omega
          have hoG : ow ≠ some w3.heap.size := fun e => by have := HR3.out.was.lt e; omega
          have hW3 : W0.heap.size ≤ w3.heap.size := HR3.out.ext.size
          obtain ⟨vg, vl⟩ := hV6
          obtain ⟨gg, gl⟩ := hG6
          obtain ⟨xa0, xa1, xag, xlt⟩ := hR6.box
          have HR7 := Lib.hid (hR6.putG v hW3 hAG hg6 hoG)
          have HG7 : Hid (LnBox (w6.putAgg ⟨w3.heap.size, 0, none⟩ v.cells) w3.heap.size v) := LnBox.put ⟨gg, gl⟩ v
          clear hR6 hC6 hS6 HR5 HG5 HV5 HR4 HG4 HR3 HR
          go_wp2_with fail
          clear xa0 xa1 xag xlt vg vl gg gl hlo hAG hoG hl6 hG6n
          generalize hW7 : w6.putAgg ⟨w3.heap.size, 0, none⟩ v.cells = W7 at *
          clear hW7
          have hg7 : W0.heap.size ≤ w3.heap.size := hW3
          refine (put_any _ (c1.drop v.num).1 F6 x.line _ HR7.out.at_).mono ?_
          rintro e w7 ⟨rfl, F7, h7, hC7, hS7⟩
          obtain ⟨hq71, hq72⟩ := HQD.out.put x.line
          have HR8 := Lib.hid (HR7.out.chg hC7 hS7 h7 hq71)
          rw [hq72, HPL.out]
          obtain ⟨hlk, hly⟩ := HQD.out.put_ok x.line ⟨hs1, hs3⟩ HPL.out
          have HLK := Lib.hid hlk
          obtain ⟨z, hz⟩ : ∃ z, z = v := ⟨_, rfl⟩
          have HLY : Hid (∀ y ∈ c.flat, y.num ≠ x.line.num → y ≠ z → lookup y.num ((r.drop v.num).put x.line).1.L = some y) := fun y hy h1 h2 => hly y (HKL.out y (Rel.mem_flat HQ.out hy) (hz ▸ h2)) h1
          have HRT := HR8
          have HG : Hid (LnBox w7 w3.heap.size z) := by rw [hz]; exact HG7.out.chg hg6 hC7
          clear hlk hly h7 hC7 hS7 hq71 hq72 HG7 HR7 hz
          have hxx : True := trivial
          obtain ⟨xa0, xa1, xag, xlt⟩ := HRT.out.box
          go_wp2_with fail
          clear xa0 xa1 xag xlt
          obtain ⟨xa0, xa1, xag, xlt⟩ := HRT.out.box
          obtain ⟨gg, gl⟩ := HG.out
          refine (find_any _ _ _ x.line.num _ HRT.out.at_ hx0 hx1).mono ?_
          rintro e w8 ⟨rfl, hE8⟩
          rw [HRT.out.rel.lookup, HLK.out]
          simp only [lnOr, Option.getD_some, Option.isSome_some]
          have HRU := Lib.hid (HRT.out.keep (hE8.alloc (.cells x.line.cells 39)))
          have HGU := Lib.hid (HG.out.ext (hE8.alloc (.cells x.line.cells 39)))
          clear xa0 xa1 xag xlt gg gl
          obtain ⟨xa0, xa1, xag, xlt⟩ := (HRT.out.keep hE8).box
          obtain ⟨gg, gl⟩ := HG.out.ext hE8
          go_wp2_with (go_at_call 34; refine (num_is _ _).mono ?_; rintro e w' ⟨rfl, rfl⟩)
          have hE9 := (Ext.refl (w8.alloc (.cells x.line.cells 39)))
          generalize hw9 : w8.alloc (.cells x.line.cells 39) = w9 at *
          clear hw9 xa0 xa1 xag xlt gg gl
          go_loopw [21] (fun i wr => ∃ k : Nat, k ≤ c.flat.length ∧ i = .int .i64 k ∧ Ext w9 wr) (fun i _ => c.flat.length - (intOf i).toNat)
          case atStart => exact ⟨0, Nat.zero_le _, rfl, Below.refl _ _⟩
          case round =>
            obtain ⟨k, hk, rfl, hE⟩ := hrel
            have hRw := HRU.out.keep hE
            obtain ⟨xa0, xa1, xag, xlt⟩ := hRw.box
            obtain ⟨gg, gl⟩ := HGU.out.ext hE
            have HRW := Lib.hid hRw
            obtain ⟨aw', cw', ew, hroww⟩ := hRw.was.row Ln.okCells
            cases ew
            by_cases hlt : k < c.flat.length
            · obtain ⟨y, hy⟩ : ∃ y, c.flat[k]? = some y := ⟨c.flat[k], by simp [hlt]⟩
              have hym := Lib.hid (List.mem_of_getElem? hy)
              obtain ⟨b, off, rfl, hg⟩ := hroww k y hy
              have hbl : b < wr.heap.size := World.agg?_lt hg
              have hki : (k : Int) < (c.flat.length : Int) := by omega
              have hc0 : wr.cell? ⟨b, off + k * 18, none⟩ = some (.int .u32 y.num) := by obtain ⟨_, _, e, h⟩ := hroww.cell hy (j := 0) (by omega); cases e; rw [Nat.add_zero] at h; rw [h]; simp [go_sem]
              obtain ⟨⟨hn0, hn1'⟩, -⟩ := y.ok
              clear hy hroww hRw
              go_wp2_with fail
              refine (find_any _ _ _ y.num _ HRW.out.at_ hn0 hn1').mono ?_
              rintro e wf ⟨rfl, hEf⟩
              rw [HRW.out.rel.lookup]
              clear xa0 xa1 xag xlt gg gl
              obtain ⟨xa0, xa1, xag, xlt⟩ := (HRW.out.keep hEf).box
              obtain ⟨gg, gl⟩ := (HGU.out.ext hE).ext hEf
              have hgf : wf.agg? ⟨b, off + k * 18, none⟩ 18 = some y.cells := (hEf.agg hbl).trans hg
              have hcf : wf.cell? ⟨b, off + k * 18, none⟩ = some (.int .u32 y.num) := (hEf.cell hbl).trans hc0
              have hbf : b < wf.heap.size := Nat.lt_of_lt_of_le hbl hEf.size
              have hEr := Lib.hid ((hE.trans hEf))
              by_cases hq : y.num = x.line.num
              · have hd : (y.num == x.line.num) = true := by simp [hq]
                have hdn : (y.num != x.line.num) = false := by simp [hq]
                generalize lookup y.num ((r.drop v.num).put x.line).1.L = ol at *
                go_wp2_with fail
                go_quiet (fail)
                go_wp2_with fail
                go_roundw
                case rel => exact ⟨k + 1, by omega, by go_num, (hEr.out.alloc _).drewN _⟩
                case measure => simp [intOf]; omega
              · have hd : (y.num == x.line.num) = false := by simp [hq]
                have hdn : (y.num != x.line.num) = true := by simp [hq]
                by_cases hq2 : y = z
                · subst hq2
                  generalize lookup y.num ((r.drop v.num).put x.line).1.L = ol at *
                  go_wp2_with fail
                  go_quiet (fail)
                  go_wp2_with fail
                  go_roundw
                  case rel => exact ⟨k + 1, by omega, by go_num, (hEr.out.alloc _).drewN _⟩
                  case measure => simp [intOf]; omega
                · have hd2 : decide (y = z) = false := by simp [hq2]
                  rw [HLY.out y hym.out hq hq2]
                  simp only [lnOr, Option.getD_some, Option.isSome_some]
                  go_wp2_with fail
                  go_quiet (fail)
                  go_wp2_with fail
                  go_roundw
                  case rel => exact ⟨k + 1, by omega, by go_num, (hEr.out.alloc _).drewN _⟩
                  case measure => simp [intOf]; omega
            · have hkk : k = c.flat.length := by omega
              subst hkk
              clear hroww hRw
              go_wp2_with fail
              refine (works_any _).mono ?_
              rintro e wz ⟨rfl, hEz⟩
              go_wp2_with fail
              go_ret
              exact ⟨rfl, (hW0.trans HRW.out.ext).trans hEz⟩
  · have hg' : right s ways = false ∨ right s ways = true ∧ (100 < M.length ∨ M.length ≤ 100 ∧ (x.line.st < 1 ∨ 1 ≤ x.line.st ∧ 3 < x.line.st)) := by
      cases hr : right s ways
      · exact .inl rfl
      · exact .inr ⟨rfl, by simp [hr] at hg; omega⟩
    obtain ⟨xa0, xa1, xag, xlt⟩ := RmBox.start w x
    clear hM hg
    rcases hg' with hr | ⟨hr, hl | ⟨hl, h1 | ⟨h1, h3⟩⟩⟩
    · go_enter Try.func7, Try.ntmps7
      go_wp2_with (go_at_call 24; refine (right_is _ _ _ hr _).mono ?_; rintro e w' ⟨rfl, rfl⟩)
      refine (works_any _).mono ?_
      rintro e w3 ⟨rfl, hE3⟩
      go_wp2_with fail
      go_ret
      exact ⟨rfl, ((Ext.refl w).alloc _).trans hE3⟩
    · have hl' : decide ((100 : Int) < (M.length : Int)) = true := by simp; omega
      go_enter Try.func7, Try.ntmps7
      go_wp2_with (go_at_call 24; refine (right_is _ _ _ hr _).mono ?_; rintro e w' ⟨rfl, rfl⟩)
      refine (works_any _).mono ?_
      rintro e w3 ⟨rfl, hE3⟩
      go_wp2_with fail
      go_ret
      exact ⟨rfl, ((Ext.refl w).alloc _).trans hE3⟩
    · have hl' : decide ((100 : Int) < (M.length : Int)) = false := by simp; omega
      have hs' : decide (x.line.st < 1) = true := by simpa using h1
      go_enter Try.func7, Try.ntmps7
      go_wp2_with (go_at_call 24; refine (right_is _ _ _ hr _).mono ?_; rintro e w' ⟨rfl, rfl⟩)
      refine (works_any _).mono ?_
      rintro e w3 ⟨rfl, hE3⟩
      go_wp2_with fail
      go_ret
      exact ⟨rfl, ((Ext.refl w).alloc _).trans hE3⟩
    · have hl' : decide ((100 : Int) < (M.length : Int)) = false := by simp; omega
      have hs' : decide (x.line.st < 1) = false := by simp; omega
      have hs'' : decide (3 < x.line.st) = true := by simp; omega
      go_enter Try.func7, Try.ntmps7
      go_wp2_with (go_at_call 24; refine (right_is _ _ _ hr _).mono ?_; rintro e w' ⟨rfl, rfl⟩)
      refine (works_any _).mono ?_
      rintro e w3 ⟨rfl, hE3⟩
      go_wp2_with fail
      go_ret
      exact ⟨rfl, ((Ext.refl w).alloc _).trans hE3⟩
end Go.Proofs
