/- The home, walked: Copy. -/
import Derived.Test.YtgggokajapoopaaHj
import Derived.Deep.LoopGhost
namespace Go
open Go.RowKit Go.Proofs
/-- A home with another entry at a key. -/
def Hom.ent (H : Hom) (x : Int) (e : En) : Hom := ⟨H.mem, fun y => if x = y then some e else H.es y⟩
theorem HomAt.putEnt {W : World} {p : Value} {H : Hom} {hb ib bb mb : Nat} {F : Nat → Prop} (h : HomAt W p H hb ib bb mb F) (x : Int) (e : En) (b : Nat) (q : Value) (o : Option Nat) (hbk : W.heap[b]? = some (.cells (e.cells q) 84 (0, 0))) (hq : QAt W q e.q o)
    (hb1 : b ≠ hb ∧ b ≠ ib ∧ b ≠ bb ∧ b ≠ mb) (ho : ∀ g, o = some g → g ≠ hb ∧ g ≠ ib ∧ g ≠ bb ∧ g ≠ mb) :
    HomAt (W.mapPut mb .u32 x (.pointer (some ⟨b, 0, none⟩))) p (H.ent x e) hb ib bb mb (fun c => F c ∨ c = b ∨ o = some c) := by
  obtain ⟨m1, m2, m3, m4, m5⟩ := h.ne
  obtain ⟨n1, n2, n3, n4⟩ := h.fn
  have hk : ∀ c, c ≠ mb → (W.mapPut mb .u32 x (.pointer (some ⟨b, 0, none⟩))).heap[c]? = W.heap[c]? := fun c hc => World.mapPut_other _ _ _ _ hc
  refine ⟨h.p, (hk _ m3).trans h.hH, h.img.keep fun c hc => hk c (by rcases hc with rfl | rfl; exact m4; exact m5), by rw [World.imap_mapPut]; exact h.im, fun y => ?_, h.ne, ⟨?_, ?_, ?_, ?_⟩, ?_, World.imapB_mapPut h.bm _ _⟩
  · rw [World.mapGet_mapPut_same _ mb .u32 x y _ h.im]
    show ((if x = y then some e else H.es y) = none ∧ _) ∨ ∃ e' v, (if x = y then some e else H.es y) = some e' ∧ _
    by_cases hy : x = y
    · rw [if_pos hy, if_pos hy]
      exact .inr ⟨e, _, rfl, rfl, b, q, o, rfl, (hk b hb1.2.2.2).trans hbk, hq.keep fun g hg => hk g (ho g hg).2.2.2, .inr (.inl rfl), fun g hg => .inr (.inr hg)⟩
    · rw [if_neg hy, if_neg hy]
      rcases h.ent y with e1 | ⟨e', v, e1, e2, e3⟩
      · exact .inl e1
      · exact .inr ⟨e', v, e1, e2, (e3.keep fun c hc hf => hk c fun e => n4 (e ▸ hf)).wide fun c hc => .inl hc⟩
  · rintro (h' | h' | h')
    · exact n1 h'
    · exact hb1.1 h'.symm
    · exact (ho _ h').1 rfl
  · rintro (h' | h' | h')
    · exact n2 h'
    · exact hb1.2.1 h'.symm
    · exact (ho _ h').2.1 rfl
  · rintro (h' | h' | h')
    · exact n3 h'
    · exact hb1.2.2.1 h'.symm
    · exact (ho _ h').2.2.1 rfl
  · rintro (h' | h' | h')
    · exact n4 h'
    · exact hb1.2.2.2 h'.symm
    · exact (ho _ h').2.2.2 rfl
  · rw [World.size_mapPut]
    rintro c (h' | h' | h')
    · exact h.fl c h'
    · rw [h']; exact (Array.getElem?_eq_some_iff.1 hbk).1
    · exact hq.lt h'
/-- Has the entry at a key come? -/
def seenKey (es : Array MapEntry) (seen : Array Nat) (x : Int) : Bool := es.toList.any fun e => keyIs .u32 x e && seen.contains e.born
/-- What has been copied. -/
def Hom.cp (H : Hom) (es : Array MapEntry) (seen : Array Nat) : Hom := ⟨H.mem, fun x => if seenKey es seen x then H.es x else none⟩
theorem seenKey_none (es : Array MapEntry) (x : Int) : seenKey es #[] x = false := by
  unfold seenKey
  rw [List.any_eq_false]
  intro e _
  simp
theorem seenKey_push {es : Array MapEntry} {seen : Array Nat} {e : MapEntry} {k : Int} (hn : (es.toList.map (·.born)).Nodup) (he : e ∈ es.toList) (hk : e.key = .int .u32 k) (x : Int) : seenKey es (seen.push e.born) x = if k = x then true else seenKey es seen x := by
  by_cases hx : k = x
  · subst hx
    rw [if_pos rfl]
    unfold seenKey
    rw [List.any_eq_true]
    exact ⟨e, he, by rw [keyIs_iff.2 hk, contains_push]; simp⟩
  · rw [if_neg hx]
    unfold seenKey
    rw [Bool.eq_iff_iff, List.any_eq_true, List.any_eq_true]
    constructor
    · rintro ⟨e', h1, h2⟩
      simp only [Bool.and_eq_true, contains_push, Bool.or_eq_true, beq_iff_eq] at h2
      rcases h2.2 with h3 | h3
      · exact ⟨e', h1, by rw [h2.1, h3]; rfl⟩
      · have := born_inj hn h1 he h3
        subst this
        have := keyIs_iff.1 h2.1
        rw [hk] at this
        cases this
        exact absurd rfl hx
    · rintro ⟨e', h1, h2⟩
      simp only [Bool.and_eq_true] at h2
      exact ⟨e', h1, by rw [h2.1, contains_push, h2.2]; rfl⟩
theorem Hom.cp_push {H : Hom} {es : Array MapEntry} {seen : Array Nat} {e : MapEntry} {k : Int} {en : En} (hn : (es.toList.map (·.born)).Nodup) (he : e ∈ es.toList) (hk : e.key = .int .u32 k) (hen : H.es k = some en) : (H.cp es seen).ent k en = H.cp es (seen.push e.born) := by
  unfold Hom.ent Hom.cp
  congr 1
  funext x
  rw [seenKey_push hn he hk]
  by_cases hx : k = x
  · subst hx; simp [hen]
  · simp [hx]
theorem Hom.cp_start (H : Hom) (es : Array MapEntry) : H.cp es #[] = Hom.new H.mem := by
  unfold Hom.cp Hom.new
  congr 1
  funext x
  rw [seenKey_none]; rfl
theorem Hom.cp_end {w : World} {p : Value} {H : Hom} {hb ib bb mb : Nat} {F : Nat → Prop} {es : Array MapEntry} {clock : Nat} {seen : Array Nat} (h : HomAt w p H hb ib bb mb F) (hm : w.bmap mb .u32 es clock) (hs : ∀ e ∈ es.toList, seen.contains e.born = true) : H.cp es seen = H := by
  unfold Hom.cp
  obtain ⟨mem, ent⟩ := H
  congr 1
  funext x
  rcases h.ent x with ⟨h1, h2⟩ | ⟨e, v, h1, h2, -⟩
  · have h1 : ent x = none := h1
    simp [h1]
  · obtain ⟨e', m1, m2, m3⟩ := World.mapGet_some hm h2
    have : seenKey es seen x = true := by
      unfold seenKey
      rw [List.any_eq_true]
      exact ⟨e', m1, by rw [keyIs_iff.2 m2, hs e' m1]; rfl⟩
    rw [this]; rfl
/-- Between two rounds of Copy. -/
structure CpInv (w wr : World) (H : Hom) (mb hb' ib' bb' mb' r : Nat) (es : Array MapEntry) (clock : Nat) (seen : Array Nat) (F' : Nat → Prop) : Prop where
  ext : Ext w wr
  it : wr.miter mb r .u32 es clock seen
  at' : HomAt wr (.pointer (some ⟨hb', 0, none⟩)) (H.cp es seen) hb' ib' bb' mb' F'
  fr : ∀ b, F' b → r < b
  le : w.heap.size ≤ hb' ∧ w.heap.size ≤ bb' ∧ w.heap.size ≤ mb' ∧ w.heap.size ≤ ib'
  lr : hb' < r ∧ ib' < r ∧ bb' < r ∧ mb' < r
theorem CpInv.step {w wr w' : World} {H : Hom} {mb hb' ib' bb' mb' r : Nat} {es : Array MapEntry} {clock : Nat} {seen : Array Nat} {F' : Nat → Prop} (h : CpInv w wr H mb hb' ib' bb' mb' r es clock seen F') (hr : w.heap.size ≤ r) (hk : ∀ x, x ≠ r → w'.heap[x]? = wr.heap[x]?) (ho : w'.os = wr.os ∧ w'.tape = wr.tape ∧ w'.output = wr.output ∧ w'.heap.size = wr.heap.size) :
    Ext w w' ∧ HomAt w' (.pointer (some ⟨hb', 0, none⟩)) (H.cp es seen) hb' ib' bb' mb' F' := by
  obtain ⟨o1, o2, o3, o4⟩ := ho
  obtain ⟨l1, l2, l3, l4⟩ := h.lr
  refine ⟨⟨o1.trans h.ext.os, o2.trans h.ext.tape, o3.trans h.ext.output, by rw [o4]; exact h.ext.size, fun k hk' => (hk k (by omega)).trans (h.ext.block k hk')⟩, h.at'.keep (fun b _ hb => hk b ?_) (by omega)⟩
  rcases hb with rfl | rfl | rfl | rfl | hb
  · omega
  · omega
  · omega
  · omega
  · have := h.fr b hb; omega
end Go
namespace Go.Proofs
open Go.RowKit
variable {F : Nat → Prop}
theorem range104 (w : World) (b : Nat) (es : Array MapEntry) (clock : Nat) (h : w.heap[b]? = some (.map es clock)) : (Instr.range 104 (.map (some b))).run Try.prog w = .ok (.pointer (some ⟨w.heap.size, 0, none⟩)) (w.alloc (.mapIter (some b) clock #[] clock)) :=
  run_range_map w 104 33 185 b es clock Try.underlying104 h
set_option maxRecDepth 100000 in
set_option maxHeartbeats 2000000 in
theorem hcopy_any (w : World) (p : Value) (H : Hom) (hb ib bb mb : Nat) (h : HomAt w p H hb ib bb mb F) (hq : ∀ x, (H.get x).q.length ≤ 1000) :
    Calls Try.prog 54 #[p] w fun e w' => ∃ hb' ib' bb' mb' F', e = .returned (.pointer (some ⟨hb', 0, none⟩)) ∧ Ext w w' ∧ HomAt w' (.pointer (some ⟨hb', 0, none⟩)) H hb' ib' bb' mb' F' ∧ w.heap.size ≤ hb' ∧ w.heap.size ≤ bb' ∧ w.heap.size ≤ mb' ∧ w.heap.size ≤ ib' ∧ ∀ b, F' b → w.heap.size ≤ b := by
  obtain ⟨f0, f1⟩ := h.facts
  obtain ⟨rfl⟩ := h.p
  have HH := Lib.hid h
  have HQ := Lib.hid hq
  have hmm := @run_makeMap Try.prog
  obtain ⟨l1, l2, l3, l4⟩ := h.lt
  obtain ⟨es, clock, hbm⟩ := h.bm
  have HBM := Lib.hid hbm
  clear h hq hbm
  go_enter Try.func54, Try.ntmps54
  go_wp2_with (first
    | (go_at_call 99; refine (hnone_any _ _ _ _ _ _ _ HH.out).mono ?_; rintro e w1 ⟨rfl, rfl⟩)
    | (go_at_call 109; refine (imgCopy_any _ _ _ _ _ HH.out.img).mono ?_; rintro e w1 ⟨ib1, bb1, rfl, hE1, hi1, hl1, hl2⟩; have HE1 := Lib.hid hE1; have HI1 := Lib.hid hi1; have f0' := (hE1.cell (o := 1) l1).trans f1; have l1' : hb < w1.heap.size := (Nat.lt_of_lt_of_le l1 hE1.size); have l4' : mb < w1.heap.size := (Nat.lt_of_lt_of_le l4 hE1.size); have hrg := range104 ((w1.alloc (.map #[] 0)).alloc (.cells #[.pointer (some ⟨ib1, 0, none⟩), .map (some w1.heap.size)] 106)) mb es clock ((Below.heap_alloc _ _ _ (by simp; omega)).trans ((Below.heap_alloc _ _ _ l4').trans ((hE1.block _ l4).trans HBM.out.hb))); clear hE1 hi1))
  have START : Hid (CpInv w (((w1.alloc (.map #[] 0)).alloc (.cells #[.pointer (some ⟨ib1, 0, none⟩), .map (some w1.heap.size)] 106)).alloc (.mapIter (some mb) clock #[] clock)) H mb (w1.heap.size + 1) ib1 bb1 w1.heap.size (w1.heap.size + 1 + 1) es clock #[] (fun _ => False)) := by
    have hE2 : Ext w1 ((w1.alloc (.map #[] 0)).alloc (.cells #[.pointer (some ⟨ib1, 0, none⟩), .map (some w1.heap.size)] 106)) := ((Ext.refl w1).alloc _).alloc _
    have hs := HE1.out.size
    obtain ⟨li, lb⟩ := HI1.out.lt
    have hm : ((w1.alloc (.map #[] 0)).alloc (.cells #[.pointer (some ⟨ib1, 0, none⟩), .map (some w1.heap.size)] 106)).bmap mb .u32 es clock := ⟨(hE2.block _ l4').trans ((HE1.out.block _ l4).trans HBM.out.hb), HBM.out.keys, HBM.out.born, HBM.out.nb, HBM.out.nk⟩
    have hst := hm.start
    have hsz : ((w1.alloc (.map #[] 0)).alloc (.cells #[.pointer (some ⟨ib1, 0, none⟩), .map (some w1.heap.size)] 106)).heap.size = w1.heap.size + 1 + 1 := by simp
    rw [hsz] at hst
    have hnew : HomAt ((w1.alloc (.map #[] 0)).alloc (.cells #[.pointer (some ⟨ib1, 0, none⟩), .map (some w1.heap.size)] 106)) (.pointer (some ⟨w1.heap.size + 1, 0, none⟩)) (Hom.new H.mem) (w1.heap.size + 1) ib1 bb1 w1.heap.size (fun _ => False) := by
      refine ⟨rfl, ?_, HI1.out.ext hE2, ?_, fun x => .inl ⟨rfl, ?_⟩, ⟨by omega, by omega, by omega, by omega, by omega⟩, ⟨id, id, id, id⟩, fun _ h => h.elim, World.imapB_of_block (Below.heap_alloc _ _ _ (by simp)) (World.imapB_made w1 .u32)⟩
      · have := heap_alloc_new (w1.alloc (.map #[] 0)) (.cells #[.pointer (some ⟨ib1, 0, none⟩), .map (some w1.heap.size)] 106)
        simpa using this
      · rw [World.imap_alloc_past _ _ _ _ (by simp), World.imap_made _ _ _ rfl]; trivial
      · rw [World.mapGet_alloc_past _ _ _ _ _ (by simp), World.mapGet_made _ _ _ _ rfl]
    exact ⟨HE1.out.trans (hE2.alloc _), hst, by rw [Hom.cp_start]; exact hnew.ext ((Ext.refl _).alloc _), fun _ h => h.elim, ⟨by omega, hl2, hs, hl1⟩, ⟨by omega, by omega, by omega, by omega⟩⟩
  have hs1 : w.heap.size ≤ w1.heap.size := HE1.out.size
  clear hrg f0 f1 f0' HE1 HI1
  generalize ((w1.alloc (.map #[] 0)).alloc (.cells #[.pointer (some ⟨ib1, 0, none⟩), .map (some w1.heap.size)] 106)).alloc (.mapIter (some mb) clock #[] clock) = W3 at *
  go_loopg [] (leftOf es #[]).size (fun n wr => ∃ seen F', (leftOf es seen).size = n ∧ CpInv w wr H mb (w1.heap.size + 1) ib1 bb1 w1.heap.size (w1.heap.size + 1 + 1) es clock seen F')
  case atStart => exact ⟨#[], _, rfl, START.out⟩
  case round =>
    obtain ⟨seen, F', hn, hI⟩ := hrel
    have HN := Lib.hid hn
    have HI := Lib.hid hI
    have hnx := hI.it.next (P := Try.prog) (by omega) 0
    clear hn hI
    rcases hnx with ⟨h0, hall, hrun⟩ | ⟨e, k, W', m1, m2, m3, m4, hrun, hit, hoth, o1, o2, o3, o4, hent⟩
    · have HD : Hid (H.cp es seen = H) := Hom.cp_end HH.out HBM.out hall
      clear hall h0
      go_wp2_with fail
      go_ret
      obtain ⟨g1, g2, g3, g4⟩ := HI.out.le
      refine ⟨_, _, _, _, F', rfl, HI.out.ext, HD.out ▸ HI.out.at', g1, g2, g3, g4, fun b hb => ?_⟩
      have := HI.out.fr b hb
      omega
    · obtain ⟨en, b0, q0, o0, hes, hval, hbk, hqq⟩ : ∃ en b0 q0 o0, H.es k = some en ∧ e.val = .pointer (some ⟨b0, 0, none⟩) ∧ w.heap[b0]? = some (.cells (en.cells q0) 84 (0, 0)) ∧ QAt w q0 en.q o0 := by
        have hg := World.mapGet_of HBM.out m1 m2
        rcases HH.out.ent k with ⟨_, h2⟩ | ⟨en, v, h1, h2, b, q, o, h3, h4, h5, -⟩
        · rw [hg] at h2; cases h2
        · rw [hg] at h2; cases h2
          exact ⟨en, b, q, o, h1, h3, h4, h5⟩
      rw [hval] at hrun hent
      obtain ⟨hEx, hA'⟩ := HI.out.step (by omega) hoth ⟨o1, o2, o3, o4⟩
      have hb0 : b0 < w.heap.size := (Array.getElem?_eq_some_iff.1 hbk).1
      have hbk' := (hEx.block _ hb0).trans hbk
      have hag : W'.agg? ⟨b0, 0, none⟩ 11 = some (en.cells q0) := World.agg?_row hbk' rfl
      have HQQ : Hid (QAt W' q0 en.q o0) := hqq.keep fun b hb => hEx.block b (hqq.lt hb)
      have hlq : en.q.length ≤ 1000 := by
        have := HQ.out k
        unfold Hom.get at this
        rw [hes] at this
        exact this
      obtain ⟨aq, cq, rfl⟩ := hqq.slice
      have HPUSH : Hid ((H.cp es seen).ent k en = H.cp es (seen.push e.born)) := Hom.cp_push HBM.out.nb m1 m2 hes
      have HEX := Lib.hid hEx
      have HA := Lib.hid hA'
      have HIT := Lib.hid hit
      have M4 := Lib.hid m4
      clear hes hval hbk hqq hbk' hEx hA' hit m1 m2 m3 m4 hoth o1 o2 o3 o4
      go_wp2_with (go_at_call 110; refine (copied_any _ en _ o0 HQQ.out hlq).mono ?_; rintro r w4 ⟨v4, o4, rfl, hE4, hs4, hf4⟩; obtain ⟨a4, c4, rfl, -⟩ := hs4.row Ms.okCells; have hA4 := HA.out.ext hE4; obtain ⟨-, c1⟩ := hA4.facts; have him := hA4.im; obtain ⟨x1, x2, x3, x4⟩ := hA4.lt; have HA4 := Lib.hid hA4; have HE4 := Lib.hid hE4; have HS4 := Lib.hid hs4; have HF4 := Lib.hid hf4; clear hA4 hE4 hs4 hf4)
      go_roundg (leftOf es (seen.push e.born)).size
      case measure => rw [← HN.out]; exact M4.out
      case rel =>
        have hE5 : Ext w4 (w4.alloc (.cells (en.cells (.slice a4 en.q.length c4)) 84)) := (Ext.refl w4).alloc _
        obtain ⟨g1, g2, g3, g4⟩ := HI.out.lr
        have hrl : w1.heap.size + 1 + 1 < W'.heap.size := (Array.getElem?_eq_some_iff.1 HIT.out.hr).1
        have hml : mb < W'.heap.size := (Array.getElem?_eq_some_iff.1 HIT.out.map.hb).1
        have hs4 := HE4.out.size
        have hp := (HA4.out.ext hE5).putEnt k en w4.heap.size (.slice a4 en.q.length c4) (QAt.of (HS4.out.ext hE5)).choose (heap_alloc_new w4 _) (QAt.of (HS4.out.ext hE5)).choose_spec.1 ⟨by omega, by omega, by omega, by omega⟩ (fun g hg => by
          have := HF4.out g ((QAt.of (HS4.out.ext hE5)).choose_spec.2 g hg)
          exact ⟨by omega, by omega, by omega, by omega⟩)
        rw [HPUSH.out] at hp
        refine ⟨_, _, rfl, ⟨((HEX.out.trans HE4.out).trans hE5).mapPut _ _ _ _ (by omega), HIT.out.keep ?_ ?_, hp, ?_, HI.out.le, HI.out.lr⟩⟩
        · rw [World.mapPut_other _ _ _ _ (by omega), hE5.block _ (by omega), HE4.out.block _ hml]
        · rw [World.mapPut_other _ _ _ _ (by omega), hE5.block _ (by omega), HE4.out.block _ hrl]
        · rintro b (hb | hb | hb)
          · exact HI.out.fr b hb
          · omega
          · have := HF4.out b ((QAt.of (HS4.out.ext hE5)).choose_spec.2 b hb)
            omega
end Go.Proofs
