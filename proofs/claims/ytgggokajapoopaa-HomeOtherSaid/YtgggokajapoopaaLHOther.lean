/- HomeOther, walked. -/
import Derived.Test.YtgggokajapoopaaHqp
import Derived.Test.YtgggokajapoopaaGb
import Derived.Test.YtgggokajapoopaaHtz
namespace Go.Proofs
open Go.RowKit
/-- What holds between two messages: the home made of bytes ls, behind k messages of other lines than x. -/
def OthInvH (w : World) (ls : List B16) (x : Nat) (hb ib bb mb : Nat) (k : Nat) (wr : World) : Prop :=
  ∃ H F, HomAt wr (.pointer (some ⟨hb, 0, none⟩)) H hb ib bb mb F ∧ HomOk H k ∧ H.get x = En.zero ∧ H.mem[x]? = ls[x]? ∧ H.mem.length = ls.length ∧ Ext w wr
theorem OthInvH.next {w wr w' : World} {ls : List B16} {x hb ib bb mb k : Nat} {H : Hom} {F : Nat → Prop} {m : Ms} {e : Ending} (hm : m.line ≠ (x : Int)) (hlt : w.heap.size ≤ bb ∧ w.heap.size ≤ mb)
    (h2 : HomOk H k) (h3 : H.get x = En.zero) (h4 : H.mem[x]? = ls[x]?) (h5 : H.mem.length = ls.length) (h6 : Ext w wr) (hT : TakePost wr (.pointer (some ⟨hb, 0, none⟩)) hb ib bb mb F (H.took m) e w') :
    (∃ v no, e = .returned (.tuple #[v, .int .i64 no])) ∧ OthInvH w ls x hb ib bb mb (k + 1) w' := by
  obtain ⟨v, o, F', he, -, hH, -, hC⟩ := hT
  obtain ⟨t1, t2⟩ := H.took_other m x hm
  obtain ⟨t3, t4⟩ := h2.took m
  exact ⟨⟨v, _, he⟩, _, F', hH, t3, t1.trans h3, t2.trans h4, t4.trans h5, Ext.of_chg h6 hC (by rintro b (rfl | rfl) <;> omega)⟩
variable {w : World} {M : List Int} {ab al : Option Addr} {cb cl : Nat} {L : List Ms}
set_option maxRecDepth 100000 in
set_option maxHeartbeats 1000000 in
theorem lawHomeOther_bad (x : Int) (h : sizeOk M.length = false) : Calls Try.prog 10 #[.slice ab M.length cb, .slice al L.length cl, .int .u32 x] w fun e w' => e = .returned (.bool true) ∧ Ext w w' := by
  have H := Lib.hid h
  have h2 := twos_ok none none 0 0 0 0
  clear h
  go_enter Try.func10, Try.ntmps10
  go_wp2_with (first
    | (go_at_call 45; refine (made_bad _ _ _ _ H.out).mono ?_; unfold rhNil; rintro e w1 ⟨rfl, hE1⟩; have HE1 := Lib.hid hE1; clear hE1)
    | (go_at_call 47; refine (known_any _).mono ?_; rintro e w2 ⟨rfl, hE2⟩; have HE2 := Lib.hid hE2; clear hE2))
  go_ret
  exact ⟨rfl, (HE1.out.trans ((Ext.refl _).alloc _)).trans HE2.out⟩
set_option maxRecDepth 100000 in
set_option maxHeartbeats 1000000 in
theorem lawHomeOther_long (x : Int) (h : sizeOk M.length = true) (hM : Row 1 encB w ab M) (ls : List B16) (hls : bytesOf ls = M) (hl : 128 < M.length) : Calls Try.prog 10 #[.slice ab M.length cb, .slice al L.length cl, .int .u32 x] w fun e w' => e = .returned (.bool true) ∧ Ext w w' := by
  have H := Lib.hid h
  have HM := Lib.hid hM
  have HLS := Lib.hid hls
  have HL := Lib.hid hl
  have h2 := twos_ok none none 0 0 0 0
  clear h hM hls hl
  go_enter Try.func10, Try.ntmps10
  go_wp2_with (first
    | (go_at_call 45; refine (made_long M _ _ _ H.out HM.out ls HLS.out HL.out).mono ?_; unfold rhNil; rintro e w1 ⟨rfl, hE1⟩; have HE1 := Lib.hid hE1; clear hE1)
    | (go_at_call 47; refine (known_any _).mono ?_; rintro e w9 ⟨rfl, hE9⟩; have HE9 := Lib.hid hE9; clear hE9))
  go_ret
  exact ⟨rfl, (HE1.out.trans ((Ext.refl _).alloc _)).trans HE9.out⟩
set_option maxRecDepth 100000 in
set_option maxHeartbeats 1000000 in
theorem lawHomeOther_many (x : Int) (h : sizeOk M.length = true) (hM : Row 1 encB w ab M) (ls : List B16) (hls : bytesOf ls = M) (h128 : M.length ≤ 128) (h40 : 40 < L.length) : Calls Try.prog 10 #[.slice ab M.length cb, .slice al L.length cl, .int .u32 x] w fun e w' => e = .returned (.bool true) ∧ Ext w w' := by
  have H := Lib.hid h
  have HM := Lib.hid hM
  have HLS := Lib.hid hls
  have hd : decide ((40 : Int) < ((L.length : Nat) : Int)) = true := by simp; omega
  clear h hM hls h40
  go_enter Try.func10, Try.ntmps10
  go_wp2_with (first
    | (go_at_call 45; refine (made_any M _ _ _ H.out HM.out ls HLS.out h128).mono ?_; rintro e w1 ⟨hb, ib, bb, mb, v1, rfl, hE1, hh1, l1, l2, l3, l4, hr1⟩; obtain ⟨rab, rnb, rcb, rae, rne, rce, rfl, -, -⟩ := rh_shape hr1; have h2 := twos_ok rab rae rnb rcb rne rce; have HE1 := Lib.hid hE1; have HH1 := Lib.hid (hh1.ext ((Ext.refl w1).alloc (.cells #[.slice rab rnb rcb, .slice rae rne rce] 74))); clear hE1 hh1 hr1)
    | (go_at_call 47; refine (known_any _).mono ?_; rintro e w9 ⟨rfl, hE9⟩; have HE9 := Lib.hid hE9; clear hE9))
  go_ret
  exact ⟨rfl, (HE1.out.trans ((Ext.refl _).alloc _)).trans HE9.out⟩
set_option maxRecDepth 100000 in
set_option maxHeartbeats 1000000 in
theorem lawHomeOther_far (x : Int) (h : sizeOk M.length = true) (hM : Row 1 encB w ab M) (ls : List B16) (hls : bytesOf ls = M) (h128 : M.length ≤ 128) (h40 : L.length ≤ 40) (h0 : 0 ≤ x ∧ x < 4294967296) (hx : (ls.length : Int) ≤ x) : Calls Try.prog 10 #[.slice ab M.length cb, .slice al L.length cl, .int .u32 x] w fun e w' => e = .returned (.bool true) ∧ Ext w w' := by
  have H := Lib.hid h
  have HM := Lib.hid hM
  have HLS := Lib.hid hls
  have hd : decide ((40 : Int) < ((L.length : Nat) : Int)) = false := by simp; omega
  have hwr : wrap64 x = x := by unfold wrap64; omega
  have hx' : ((ls.length : Int) ≤ x) = True := eq_true hx
  have hxd : decide ((ls.length : Int) ≤ x) = true := by simpa using hx
  clear h hM hls h40 hx h0
  go_enter Try.func10, Try.ntmps10
  go_wp2_with (first
    | (go_at_call 45; refine (made_any M _ _ _ H.out HM.out ls HLS.out h128).mono ?_; rintro e w1 ⟨hb, ib, bb, mb, v1, rfl, hE1, hh1, l1, l2, l3, l4, hr1⟩; obtain ⟨rab, rnb, rcb, rae, rne, rce, rfl, -, -⟩ := rh_shape hr1; have h2 := twos_ok rab rae rnb rcb rne rce; have HE1 := Lib.hid hE1; have HH1 := Lib.hid (hh1.ext ((Ext.refl w1).alloc (.cells #[.slice rab rnb rcb, .slice rae rne rce] 74))); clear hE1 hh1 hr1)
    | (go_at_call 46; refine (hlines_any _ _ _ _ _ _ _ HH1.out).mono ?_; (try unfold Hom.new); rintro e w2 ⟨rfl, rfl⟩)
    | (go_at_call 47; refine (known_any _).mono ?_; rintro e w9 ⟨rfl, hE9⟩; have HE9 := Lib.hid hE9; clear hE9))
  go_ret
  exact ⟨rfl, (HE1.out.trans ((Ext.refl _).alloc _)).trans HE9.out⟩
set_option maxRecDepth 100000 in
set_option maxHeartbeats 2000000 in
theorem lawHomeOther_main (x : Nat) (h : sizeOk M.length = true) (hM : Row 1 encB w ab M) (ls : List B16) (hls : bytesOf ls = M) (h128 : M.length ≤ 128) (h40 : L.length ≤ 40) (hL : Row 20 Ms.cells w al L) (hx : x < ls.length) : Calls Try.prog 10 #[.slice ab M.length cb, .slice al L.length cl, .int .u32 x] w fun e w' => e = .returned (.bool true) ∧ Ext w w' := by
  have hlen := length_bytesOf ls
  rw [hls] at hlen
  have hlen2 : 1 ≤ ls.length ∧ ls.length ≤ 8 := by omega
  have H := Lib.hid h
  have HM := Lib.hid hM
  have HLS := Lib.hid hls
  have HL := Lib.hid hL
  have HLEN := Lib.hid hlen
  have hd : decide ((40 : Int) < ((L.length : Nat) : Int)) = false := by simp; omega
  have hwr : wrap64 (x : Int) = x := by unfold wrap64; omega
  have hx' : ((ls.length : Int) ≤ (x : Int)) = False := eq_false (by omega)
  have hxd : decide ((ls.length : Int) ≤ (x : Int)) = false := by simp; omega
  obtain ⟨y, hy⟩ : ∃ y, ls[x]? = some y := ⟨_, List.getElem?_eq_getElem hx⟩
  have HY := Lib.hid hy
  clear h hM hls hL hy hlen
  go_enter Try.func10, Try.ntmps10
  go_wp2_with (first
    | (go_at_call 45; refine (made_any M _ _ _ H.out HM.out ls HLS.out h128).mono ?_; rintro e w1 ⟨hb, ib, bb, mb, v1, rfl, hE1, hh1, l1, l2, l3, l4, hr1⟩; obtain ⟨rab, rnb, rcb, rae, rne, rce, rfl, -, -⟩ := rh_shape hr1; have h2 := twos_ok rab rae rnb rcb rne rce; have HE1 := Lib.hid hE1; have HH1 := Lib.hid (hh1.ext ((Ext.refl w1).alloc (.cells #[.slice rab rnb rcb, .slice rae rne rce] 74))); clear hE1 hh1 hr1)
    | (go_at_call 46; refine (hlines_any _ _ _ _ _ _ _ HH1.out).mono ?_; (try unfold Hom.new); rintro e w2 ⟨rfl, rfl⟩))
  have START : Hid (OthInvH w ls x hb ib bb mb 0 (w1.alloc (.cells #[.slice rab rnb rcb, .slice rae rne rce] 74))) := ⟨_, _, HH1.out, HomOk.new (by omega), rfl, rfl, rfl, HE1.out.alloc _⟩
  have LT : Hid (w.heap.size ≤ bb ∧ w.heap.size ≤ mb) := ⟨l2, l3⟩
  clear HH1 HE1 l1 l2 l3 l4 h2 hxd hwr hx'
  generalize w1.alloc (.cells #[.slice rab rnb rcb, .slice rae rne rce] 74) = W1 at *
  go_loopw [10] (fun i wr => ∃ k : Nat, k ≤ L.length ∧ i = .int .i64 k ∧ OthInvH w ls x hb ib bb mb k wr) (fun i _ => L.length - (intOf i).toNat)
  case atStart => exact ⟨0, Nat.zero_le _, rfl, START.out⟩
  case round =>
    obtain ⟨k, hk, rfl, hI⟩ := hrel
    have HI := Lib.hid hI
    obtain ⟨G, F, g1, g2, g3, g4, g5, g6⟩ := hI
    by_cases hlt : k < L.length
    · obtain ⟨m, hm⟩ : ∃ m, L[k]? = some m := ⟨L[k], by simp [hlt]⟩
      obtain ⟨b1, off1, rfl, hg1⟩ := (HL.out.ext g6) k m hm
      have hc3 := (Ms.sub hg1).2.2.2.1
      have hki : (k : Int) < (L.length : Int) := by omega
      have hk0 : (0 : Int) ≤ (k : Int) := by omega
      by_cases hq : m.line = (x : Int)
      · have hd2 : (m.line != (x : Int)) = false := by simpa using hq
        have HQ := Lib.hid hq
        clear hm hq g1 g2 g3 g4 g5 g6
        go_wp2_with fail
        go_roundw
        case rel =>
          obtain ⟨G, F, g1, g2, g3, g4, g5, g6⟩ := HI.out
          exact ⟨k + 1, by omega, by go_num, G, F, g1, ⟨g2.ok, fun x => Nat.le_succ_of_le (g2.q x), g2.len⟩, g3, g4, g5, g6⟩
        case measure => simp [intOf]; omega
      · have hd2 : (m.line != (x : Int)) = true := by simpa using hq
        have HQ : Hid (m.line ≠ (x : Int)) := hq
        have HG1 := Lib.hid g1
        have HG2 := Lib.hid g2
        have HG3 := Lib.hid g3
        have HG4 := Lib.hid g4
        have HG5 := Lib.hid g5
        have HG6 := Lib.hid g6
        clear hm hq g1 g2 g3 g4 g5 g6
        go_wp2_with (go_at_call 48; refine (take_any HG1.out m HG2.out (by omega)).mono ?_; intro e w3 hT; have hN := OthInvH.next HQ.out LT.out HG2.out HG3.out HG4.out HG5.out HG6.out hT; obtain ⟨⟨v3, no3, rfl⟩, hN⟩ := hN; have HN := Lib.hid hN; clear hT hN)
        go_roundw
        case rel => exact ⟨k + 1, by omega, by go_num, HN.out⟩
        case measure => simp [intOf]; omega
    · have hkk : k = L.length := by omega
      subst hkk
      have hgq : (G.get x).q.length ≤ 1000 := by rw [g3]; exact Nat.zero_le _
      have hGy : G.mem[x]? = some y := g4.trans HY.out
      have hGx : (x : Int) < (G.mem.length : Int) := by omega
      have hx32 : (0 : Int) ≤ (x : Int) ∧ (x : Int) < 4294967296 := by omega
      have hT := took_lone G x y g3 hGy (by omega) ⟨2, 1, 4, x, B16.zero, hx32⟩ ⟨rfl, rfl, rfl, rfl, rfl⟩
      obtain ⟨H', Mo, hT, hM1, hM2, hM3⟩ := hT
      have hmm : #[Value.int .i64 2, .int .i64 1, .int .i64 4, .int .u32 x, .int .u8 0, .int .u8 0, .int .u8 0, .int .u8 0, .int .u8 0, .int .u8 0, .int .u8 0, .int .u8 0, .int .u8 0, .int .u8 0, .int .u8 0, .int .u8 0, .int .u8 0, .int .u8 0, .int .u8 0, .int .u8 0] = (⟨2, 1, 4, x, B16.zero, hx32⟩ : Ms).cells := rfl
      generalize (⟨2, 1, 4, x, B16.zero, hx32⟩ : Ms) = MM at hT hmm
      have hz : #[Value.int .i64 (-1), .bool false, .bool false, .bool false, .bool false, .bool false, .int .i64 0, .int .i64 0, .int .i64 0, .bool false, .slice none 0 0] = En.zero.cells (.slice none 0 0) := rfl
      have HT := Lib.hid hT
      have HG1 := Lib.hid g1
      have HG2 := Lib.hid g2
      have HG3 := Lib.hid g3
      have HG6 := Lib.hid g6
      have HX := Lib.hid hGx
      have HX32 := Lib.hid hx32
      have HGQ := Lib.hid hgq
      clear hT g1 g2 g3 g4 g5 g6 hGy hGx hgq hx32 hk
      go_wp2_with (first
        | (go_at_call 49; refine (hentry_any _ _ _ _ _ _ _ HG1.out x HX32.out (Int.not_le.2 HX.out) HGQ.out).mono ?_; rw [HG3.out]; rintro e w3 ⟨v3, o3, rfl, hE3, hs3⟩; obtain ⟨a3, c3, rfl, hr3⟩ := hs3.row Ms.okCells; have HE3 := Lib.hid (hE3.alloc (.cells (En.zero.cells (.slice a3 En.zero.q.length c3)) 84)); have hag3 := World.agg?_alloc_at w3 (En.zero.cells (.slice a3 En.zero.q.length c3)) 84 w3.heap.size 11 rfl rfl; have hlt3 : w3.heap.size < (w3.alloc (.cells (En.zero.cells (.slice a3 En.zero.q.length c3)) 84)).heap.size := (by simp); have hle3 := hE3.size; clear hE3 hs3 hr3)
        | (go_at_call 48; refine (take_any (HG1.out.ext HE3.out) MM HG2.out (by omega)).mono ?_; rw [HT.out]; rintro e w4 ⟨v4, o4, F4, rfl, hs4, hh4, -, hc4⟩; obtain ⟨a4, c4, rfl, hr4⟩ := hs4.row Ms.okCells; obtain ⟨b4, off4, rfl, hg4⟩ := hr4 0 Mo rfl; simp only [Nat.zero_mul, Nat.add_zero] at hg4; obtain ⟨q1, q2, q3, q4, q5⟩ := Ms.sub hg4; rw [hM1] at q1; rw [hM2] at q3; rw [hM3] at q5; have hag4 := (World.agg?_of_block (w' := w4) (a := ⟨w3.heap.size, 0, none⟩) (n := 11) (hc4.block _ hlt3 (by have := HG1.out.lt; simp only; omega))).trans hag3; have HE4 : Hid (Ext w w4) := Ext.of_chg (HG6.out.trans HE3.out) hc4 (by have := LT.out; rintro b (rfl | rfl) <;> omega); have HQ5 := Lib.hid q5; clear hr4 hs4 hg4 hh4 hc4 q2 q4 q5 hag3)
        | (go_at_call 50; refine (rsame_entry En.zero a3 none c3 0 _ (fun i x hx => by simp [En.zero] at hx) (fun i x hx => by simp [En.zero] at hx) (by simp [En.zero])).mono ?_; rintro e w5 ⟨rfl, hE5⟩; have lt5 := lt_of_cell q1; obtain ⟨r1, r2, r3, r5, r4⟩ := hE5.rules; have q1' := (r1 b4 off4 lt5).trans q1; have q3' := (r1 b4 (off4 + 2) lt5).trans q3; have HQ6 := Lib.hid ((r3 b4 (off4 + 4) 16 lt5).trans HQ5.out); have HE5 := Lib.hid (HE4.out.trans hE5); clear q1 q3 hag4 hE5 r1 r2 r3 r5 r4))
      go_loopw [15] (fun i wr => ∃ j : Nat, j ≤ 16 ∧ i = .int .i64 j ∧ Ext w5 wr) (fun i _ => 16 - (intOf i).toNat)
      case atStart => exact ⟨0, Nat.zero_le _, rfl, Ext.refl _⟩
      case round =>
        obtain ⟨j, hj, rfl, hE⟩ := hrel
        by_cases hlj : j < 16
        · obtain ⟨c, hc1, hc2⟩ := byte_of_line HY.out j hlj
          rw [HLS.out] at hc2
          have hc3 := World.agg?_cell ((hE.agg (World.agg?_lt HQ6.out)).trans HQ6.out) (j := j) hlj
          have hadd : (⟨b4, off4 + 4, none⟩ : Addr).add j = ⟨b4, off4 + 4 + j, none⟩ := by unfold Addr.add; split <;> simp_all
          rw [hadd] at hc3
          have hc3' : wr.cell? ⟨b4, off4 + 4 + j, none⟩ = some (.int .u8 c) := by
            rw [hc3]; unfold B16.cells; rw [List.getElem?_toArray, List.getElem?_map, hc1]; rfl
          obtain ⟨bM, offM, rfl, hcell⟩ := (HM.out.ext (HE5.out.trans hE)).cell hc2 (j := 0) (by omega)
          have hc4 : wr.cell? ⟨bM, offM + (16 * x + j), none⟩ = some (.int .u8 c) := by
            rw [Nat.mul_one, Nat.add_zero] at hcell; exact hcell
          have hji : (j : Int) < 16 := by omega
          have hj0 : (0 : Int) ≤ (j : Int) := by omega
          have hml : 16 * x + j < M.length := by have := HLEN.out; omega
          have hmli : ((16 * x + j : Nat) : Int) < (M.length : Int) := by omega
          clear hc1 hc2 hc3 hcell hadd
          go_wp2_with fail
          go_quiet (fail)
          go_wp2_with fail
          go_roundw
          case rel => exact ⟨j + 1, by omega, by go_num, hE.trans ((Ext.refl _).drewN _)⟩
          case measure => simp [intOf]; omega
        · have hjj : j = 16 := by omega
          subst hjj
          go_wp2_with (go_at_call 47; refine (known_any _).mono ?_; rintro e w9 ⟨rfl, hE9⟩; have HE9 := Lib.hid hE9; clear hE9)
          go_ret
          exact ⟨rfl, (HE5.out.trans hE).trans HE9.out⟩
/-- A length that may be: the lines that bytes are. -/
theorem lines_of (h : sizeOk M.length = true) (hb : ∀ b ∈ M, 0 ≤ b ∧ b < 256) : ∃ ls, bytesOf ls = M ∧ M.length = 16 * ls.length := by
  obtain ⟨ls, h1, h2⟩ := bytes_chunk (M.length / 16) M (by have := sizeOk_cases h; omega) hb
  exact ⟨ls, h1, by rw [h2]; have := sizeOk_cases h; omega⟩
theorem lawHomeOther (M : List Int) (ab : Option Addr) (cb : Nat) (L : List Ms) (al : Option Addr) (cl : Nat) (x : Int) (w : World) (hM : Row 1 encB w ab M) (hb : ∀ b ∈ M, 0 ≤ b ∧ b < 256) (hL : Row 20 Ms.cells w al L) (h0 : 0 ≤ x) (h1 : x < 4294967296) :
    Calls Try.prog 10 #[.slice ab M.length cb, .slice al L.length cl, .int .u32 x] w fun e w' => e = .returned (.bool true) ∧ Ext w w' := by
  cases h : sizeOk M.length with
  | false => exact lawHomeOther_bad x h
  | true =>
    obtain ⟨ls, hls, hlen⟩ := lines_of h hb
    by_cases h128 : 128 < M.length
    · exact lawHomeOther_long x h hM ls hls h128
    · by_cases h40 : 40 < L.length
      · exact lawHomeOther_many x h hM ls hls (by omega) h40
      · by_cases hx : (ls.length : Int) ≤ x
        · exact lawHomeOther_far x h hM ls hls (by omega) (by omega) ⟨h0, h1⟩ hx
        · obtain ⟨n, rfl⟩ : ∃ n : Nat, x = n := ⟨x.toNat, by omega⟩
          exact lawHomeOther_main n h hM ls hls (by omega) (by omega) hL (by omega)
end Go.Proofs
