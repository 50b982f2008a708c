-- Written by printx.py, a program of this workplace over the kit's printer; Lean checks it.
import Derived.Test.YtbadcpaopdbgnaaPStreamWholex0
import Derived.Test.YtbadcpaopdbgnaaPStreamWholex2
import Derived.Test.YtbadcpaopdbgnaaPStreamWholex3
import Derived.Test.YtbadcpaopdbgnaaPStreamWholex4
import Derived.Test.YtbadcpaopdbgnaaPStreamWholex5
import Derived.Test.YtbadcpaopdbgnaaPStreamWholex6
namespace Go.Proofs.Ytbadcpaopdbgnaa.PStreamWhole
open Go.RowKit Go.Proofs.YtbadcpaopdbgnaaW.PrintWords Go.Proofs.YtbadcpaopdbgnaaW.PrintLast Go.Proofs.YtbadcpaopdbgnaaW.PrintMore
attribute [local go_sem] max2_int min2_int max_two min_two max_three min_three max_four min_four   -- for this text's walks alone
set_option linter.unusedVariables false
set_option linter.unusedSimpArgs false

/-! ### thresherlaw20_StreamWhole: function 6 -/
set_option maxHeartbeats 40000000 in
set_option maxRecDepth 100000 in
theorem thresherlaw20_StreamWhole.calls (k : Nat) (a0_0 : ByteArray) (a0_1 : Int) (a0_2 : Int) (a0_3 : Int) (a0_4 : Int) (a0_5 : Int) (a0_6 : ByteArray) (a0_7 : Bool) (A0_8 : Option Addr) (c0_8 : Nat) (l0_8 : List (S38)) (r : Bool) (w : World) (hr0_8 : Kd.C k38 w A0_8 l0_8.length l0_8) (hc0_8 : l0_8.length ≤ c0_8) (h : thresherlaw20_StreamWhole.f k a0_0 a0_1 a0_2 a0_3 a0_4 a0_5 a0_6 a0_7 l0_8 = some r) :
  Calls Try.prog 6 #[.agg #[.string a0_0, .int .i64 a0_1, .int .i64 a0_2, .int .i64 a0_3, .int .i64 a0_4, .int .u32 a0_5, .string a0_6, .bool a0_7, .slice A0_8 l0_8.length c0_8]] w fun e w' => e = .returned (.bool r) ∧ Below w.heap.size w w' := by
 have hu35 := Try.underlying35; have hu30 := Try.underlying30; have hu32 := Try.underlying32; have HR0_8 := Aside0.mk hr0_8; have HC0_8 := Aside0.mk hc0_8; clear hr0_8 hc0_8
 have HB := Aside0.mk (Below.refl w.heap.size w)
 have H : ((thresherlaw20_heavy.f k a0_0 a0_1 a0_2 a0_3 a0_4 a0_5 a0_6 a0_7 l0_8).bind fun t169 => (if t169 = true then (thresherlaw20_StreamWhole.j0 k true a0_0 a0_1 a0_2 a0_3 a0_4 a0_5 a0_6 a0_7 l0_8) else (if (a0_0.size : Int) = 0 then (thresherlaw20_StreamWhole.j0 k true a0_0 a0_1 a0_2 a0_3 a0_4 a0_5 a0_6 a0_7 l0_8) else (thresherlaw20_StreamWhole.j0 k (decide ((a0_0.size : Int) > 2000)) a0_0 a0_1 a0_2 a0_3 a0_4 a0_5 a0_6 a0_7 l0_8)))) = some r := h
 clear h; have HC2 := Aside0.mk H; clear H
 go_enter Try.func6, Try.ntmps6
 go_upto_region 1 with (first | ((with_reducible refine gate_dst (N := 1) rfl ?_); (try (refine gate_guard (by rfl) ?_; dsimp only)); refine box_event ?hg (N := 1) ?hd (cs := #[.string a0_0, .int .i64 a0_1, .int .i64 a0_2, .int .i64 a0_3, .int .i64 a0_4, .int .u32 a0_5, .string a0_6, .bool a0_7, .slice A0_8 l0_8.length c0_8]) (t := 35) ?hr ?_; (case hd => rfl); (case hg => rfl); (case hr => first | (go_simp; done) | (go_simp; rfl)); intro gb168 hg w3 hbox hb; have n0_ := Aside0.mk (below_step (by repeat (first | (with_reducible first | exact HB.out | apply below_alloc | apply pw_below_drewN | apply below_drew1) | exact HB.out)) hb); have n1_ := Aside0.mk (hbox); have n2_ := Aside0.mk ((by rw [hg]; exact (below_size (by repeat (first | (with_reducible first | exact HB.out | apply below_alloc | apply pw_below_drewN | apply below_drew1) | exact HB.out))) : w.heap.size ≤ gb168)); have n3_ := Aside0.mk ((by rw [hg]; exact (below_size (by repeat (first | (with_reducible first | exact HB.out | apply below_alloc | apply pw_below_drewN | apply below_drew1) | exact HB.out))) : w.heap.size ≤ gb168)); clear HB; have HB := n0_; have BK168 := n1_; have GW168 := n2_; have GE168 := n3_; clear n0_ n1_ n2_ n3_; clear hb hbox hg))
 (try simp only [Act.put, List.setIfInBounds_toArray, List.set_cons_zero, List.set_cons_succ])
 go_cut [40] (fun v40 wc => ∃ (kq : Nat) (x40_1 : Bool), v40 = .bool x40_1 ∧ Aside0 (thresherlaw20_StreamWhole.j0 kq x40_1 a0_0 a0_1 a0_2 a0_3 a0_4 a0_5 a0_6 a0_7 l0_8 = some r) ∧ Aside0 (kq ≤ k) ∧ Aside0 (wc.heap[gb168]? = some (.cells #[.string a0_0, .int .i64 a0_1, .int .i64 a0_2, .int .i64 a0_3, .int .i64 a0_4, .int .u32 a0_5, .string a0_6, .bool a0_7, (.slice A0_8 l0_8.length c0_8)] 35 (0, 0))) ∧ Aside0 (Below w.heap.size w wc))
 case first =>
  as_aux_lemma =>
   have H := HC2.out; clear HC2
   replace H := Option.bind_eq_some_iff.mp H
   obtain ⟨t169, A40, H⟩ := H
   replace H : (if t169 = true then (thresherlaw20_StreamWhole.j0 k true a0_0 a0_1 a0_2 a0_3 a0_4 a0_5 a0_6 a0_7 l0_8) else (if (a0_0.size : Int) = 0 then (thresherlaw20_StreamWhole.j0 k true a0_0 a0_1 a0_2 a0_3 a0_4 a0_5 a0_6 a0_7 l0_8) else (thresherlaw20_StreamWhole.j0 k (decide ((a0_0.size : Int) > 2000)) a0_0 a0_1 a0_2 a0_3 a0_4 a0_5 a0_6 a0_7 l0_8))) = some r := H
   have A4 := Aside0.mk A40; clear A40
   by_cases c5 : t169 = true
   ·
    subst c5
    have H1 : (thresherlaw20_StreamWhole.j0 k true a0_0 a0_1 a0_2 a0_3 a0_4 a0_5 a0_6 a0_7 l0_8) = some r := by rw [if_pos rfl] at H; exact H
    clear H; have H := H1; clear H1
    have H' := Aside0.mk H
    clear H
    obtain ⟨hcz6_0, hcz6_1, hcz6_2, hcz6_3, hcz6_4, hcz6_5, hcz6_6, hcz6_7, hcz6_8, hfz6_0, hfz6_1, hfz6_2, hfz6_3, hfz6_4, hfz6_5, hfz6_6, hfz6_7, hfz6_8⟩ := blkall_9 BK168.out
    go_wp2_with (first | ((with_reducible refine gate_callee (f := 14) rfl ?_); refine goesL_ (some 26) rfl rfl Try.func14 (by kernel_rfl) rfl #[.agg #[.string a0_0, .int .i64 a0_1, .int .i64 a0_2, .int .i64 a0_3, .int .i64 a0_4, .int .u32 a0_5, .string a0_6, .bool a0_7, .slice A0_8 l0_8.length c0_8]] rfl (by (try simp only [List.map_toArray, List.map_cons, List.map_nil]); first | done | rfl | (simp only [List.length_drop, List.length_take]; rfl)) ?_; (with_reducible refine (thresherlaw20_heavy.calls k a0_0 a0_1 a0_2 a0_3 a0_4 a0_5 a0_6 a0_7 _ _ l0_8 true _ ?side1 ?side2 A4.out).mono ?_); (case side1 => repeat (first | exact (Kd.C_below HR0_8.out HB.out) | (with_reducible refine Kd.C_alloc ?_ _) | (with_reducible refine Kd.C_drewN ?_ _) | (with_reducible refine Kd.C_drew ?_))); (case side2 => exact HC0_8.out); rintro e w7 ⟨rfl, hb⟩; refine ⟨_, rfl, ?_⟩; have n0_ := Aside0.mk (blk_below (g := gb168) (o := .cells #[.string a0_0, .int .i64 a0_1, .int .i64 a0_2, .int .i64 a0_3, .int .i64 a0_4, .int .u32 a0_5, .string a0_6, .bool a0_7, .slice A0_8 l0_8.length c0_8] 35 (0, 0)) (by (with_reducible repeat (first | refine blk_drewN ?_ _ | refine blk_drew ?_ | refine blk_alloc ?_ _)); exact BK168.out) hb); have n1_ := Aside0.mk (below_step (by repeat (first | (with_reducible first | exact HB.out | apply below_alloc | apply pw_below_drewN | apply below_drew1 | refine below_set ?_ GE168.out) | exact HB.out)) hb); clear BK168; clear HB; have BK168 := n0_; have HB := n1_; clear n0_ n1_; (try clear hb); (try clear hb2); (try clear hk); (try clear hi)))
    go_meet
    case rel => exact ⟨_, (true), (by first | rfl | (simp; done) | (simp [*]; done)), H', ⟨by first | omega | exact Nat.le_refl _⟩, ⟨by (with_reducible repeat (first | refine blk_drewN ?_ _ | refine blk_drew ?_ | refine blk_alloc ?_ _)); exact BK168.out⟩, ⟨by repeat (first | (with_reducible first | exact HB.out | apply below_alloc | apply pw_below_drewN | apply below_drew1 | refine below_set ?_ GE168.out) | exact HB.out)⟩⟩
   replace c5 := Bool.eq_false_iff.mpr c5
   subst c5
   have H1 : (if (a0_0.size : Int) = 0 then (thresherlaw20_StreamWhole.j0 k true a0_0 a0_1 a0_2 a0_3 a0_4 a0_5 a0_6 a0_7 l0_8) else (thresherlaw20_StreamWhole.j0 k (decide ((a0_0.size : Int) > 2000)) a0_0 a0_1 a0_2 a0_3 a0_4 a0_5 a0_6 a0_7 l0_8)) = some r := by rw [if_neg (show ¬ (false = true) by decide)] at H; exact H
   clear H; have H := H1; clear H1
   by_cases c8 : (a0_0.size : Int) = 0
   ·
    rw [if_pos c8] at H
    have c8b0 : ((a0_0.size : Int) == 0) = true := beq_iff_eq.mpr c8
    have c8b1 : ((a0_0.size : Int) != 0) = false := bne_eq_false_iff_eq.mpr c8
    clear c8
    (first | rw [c8b0] | (simp only [i64_w, i32_w]; rw [c8b0]) | skip)
    have H' := Aside0.mk H
    clear H
    obtain ⟨hcz9_0, hcz9_1, hcz9_2, hcz9_3, hcz9_4, hcz9_5, hcz9_6, hcz9_7, hcz9_8, hfz9_0, hfz9_1, hfz9_2, hfz9_3, hfz9_4, hfz9_5, hfz9_6, hfz9_7, hfz9_8⟩ := blkall_9 BK168.out
    go_wp2_with (first | ((with_reducible refine gate_callee (f := 14) rfl ?_); refine goesL_ (some 26) rfl rfl Try.func14 (by kernel_rfl) rfl #[.agg #[.string a0_0, .int .i64 a0_1, .int .i64 a0_2, .int .i64 a0_3, .int .i64 a0_4, .int .u32 a0_5, .string a0_6, .bool a0_7, .slice A0_8 l0_8.length c0_8]] rfl (by (try simp only [List.map_toArray, List.map_cons, List.map_nil]); first | done | rfl | (simp only [List.length_drop, List.length_take]; rfl)) ?_; (with_reducible refine (thresherlaw20_heavy.calls k a0_0 a0_1 a0_2 a0_3 a0_4 a0_5 a0_6 a0_7 _ _ l0_8 false _ ?side1 ?side2 A4.out).mono ?_); (case side1 => repeat (first | exact (Kd.C_below HR0_8.out HB.out) | (with_reducible refine Kd.C_alloc ?_ _) | (with_reducible refine Kd.C_drewN ?_ _) | (with_reducible refine Kd.C_drew ?_))); (case side2 => exact HC0_8.out); rintro e w10 ⟨rfl, hb⟩; refine ⟨_, rfl, ?_⟩; have n0_ := Aside0.mk (blk_below (g := gb168) (o := .cells #[.string a0_0, .int .i64 a0_1, .int .i64 a0_2, .int .i64 a0_3, .int .i64 a0_4, .int .u32 a0_5, .string a0_6, .bool a0_7, .slice A0_8 l0_8.length c0_8] 35 (0, 0)) (by (with_reducible repeat (first | refine blk_drewN ?_ _ | refine blk_drew ?_ | refine blk_alloc ?_ _)); exact BK168.out) hb); have n1_ := Aside0.mk (below_step (by repeat (first | (with_reducible first | exact HB.out | apply below_alloc | apply pw_below_drewN | apply below_drew1 | refine below_set ?_ GE168.out) | exact HB.out)) hb); clear BK168; clear HB; have BK168 := n0_; have HB := n1_; clear n0_ n1_; (try clear hb); (try clear hb2); (try clear hk); (try clear hi); obtain ⟨hcz11_0, hcz11_1, hcz11_2, hcz11_3, hcz11_4, hcz11_5, hcz11_6, hcz11_7, hcz11_8, hfz11_0, hfz11_1, hfz11_2, hfz11_3, hfz11_4, hfz11_5, hfz11_6, hfz11_7, hfz11_8⟩ := blkall_9 BK168.out))
    go_meet
    case rel => exact ⟨_, (true), (by first | rfl | (simp; done) | (simp [*]; done)), H', ⟨by first | omega | exact Nat.le_refl _⟩, ⟨by (with_reducible repeat (first | refine blk_drewN ?_ _ | refine blk_drew ?_ | refine blk_alloc ?_ _)); exact BK168.out⟩, ⟨by repeat (first | (with_reducible first | exact HB.out | apply below_alloc | apply pw_below_drewN | apply below_drew1 | refine below_set ?_ GE168.out) | exact HB.out)⟩⟩
   rw [if_neg c8] at H
   have c8b0 : ((a0_0.size : Int) == 0) = false := beq_eq_false_iff_ne.mpr c8
   have c8b1 : ((a0_0.size : Int) != 0) = true := bne_iff_ne.mpr c8
   (first | rw [c8b0] | (simp only [i64_w, i32_w]; rw [c8b0]) | skip)
   have H' := Aside0.mk H
   clear H
   obtain ⟨hcz12_0, hcz12_1, hcz12_2, hcz12_3, hcz12_4, hcz12_5, hcz12_6, hcz12_7, hcz12_8, hfz12_0, hfz12_1, hfz12_2, hfz12_3, hfz12_4, hfz12_5, hfz12_6, hfz12_7, hfz12_8⟩ := blkall_9 BK168.out
   go_wp2_with (first | ((with_reducible refine gate_callee (f := 14) rfl ?_); refine goesL_ (some 26) rfl rfl Try.func14 (by kernel_rfl) rfl #[.agg #[.string a0_0, .int .i64 a0_1, .int .i64 a0_2, .int .i64 a0_3, .int .i64 a0_4, .int .u32 a0_5, .string a0_6, .bool a0_7, .slice A0_8 l0_8.length c0_8]] rfl (by (try simp only [List.map_toArray, List.map_cons, List.map_nil]); first | done | rfl | (simp only [List.length_drop, List.length_take]; rfl)) ?_; (with_reducible refine (thresherlaw20_heavy.calls k a0_0 a0_1 a0_2 a0_3 a0_4 a0_5 a0_6 a0_7 _ _ l0_8 false _ ?side1 ?side2 A4.out).mono ?_); (case side1 => repeat (first | exact (Kd.C_below HR0_8.out HB.out) | (with_reducible refine Kd.C_alloc ?_ _) | (with_reducible refine Kd.C_drewN ?_ _) | (with_reducible refine Kd.C_drew ?_))); (case side2 => exact HC0_8.out); rintro e w13 ⟨rfl, hb⟩; refine ⟨_, rfl, ?_⟩; have n0_ := Aside0.mk (blk_below (g := gb168) (o := .cells #[.string a0_0, .int .i64 a0_1, .int .i64 a0_2, .int .i64 a0_3, .int .i64 a0_4, .int .u32 a0_5, .string a0_6, .bool a0_7, .slice A0_8 l0_8.length c0_8] 35 (0, 0)) (by (with_reducible repeat (first | refine blk_drewN ?_ _ | refine blk_drew ?_ | refine blk_alloc ?_ _)); exact BK168.out) hb); have n1_ := Aside0.mk (below_step (by repeat (first | (with_reducible first | exact HB.out | apply below_alloc | apply pw_below_drewN | apply below_drew1 | refine below_set ?_ GE168.out) | exact HB.out)) hb); clear BK168; clear HB; have BK168 := n0_; have HB := n1_; clear n0_ n1_; (try clear hb); (try clear hb2); (try clear hk); (try clear hi); obtain ⟨hcz14_0, hcz14_1, hcz14_2, hcz14_3, hcz14_4, hcz14_5, hcz14_6, hcz14_7, hcz14_8, hfz14_0, hfz14_1, hfz14_2, hfz14_3, hfz14_4, hfz14_5, hfz14_6, hfz14_7, hfz14_8⟩ := blkall_9 BK168.out))
   go_meet
   case rel => exact ⟨_, (decide ((a0_0.size : Int) > 2000)), (by first | rfl | (simp; done) | (simp [*]; done)), H', ⟨by first | omega | exact Nat.le_refl _⟩, ⟨by (with_reducible repeat (first | refine blk_drewN ?_ _ | refine blk_drew ?_ | refine blk_alloc ?_ _)); exact BK168.out⟩, ⟨by repeat (first | (with_reducible first | exact HB.out | apply below_alloc | apply pw_below_drewN | apply below_drew1 | refine below_set ?_ GE168.out) | exact HB.out)⟩⟩
 case rest =>
  as_aux_lemma =>
   clear HC2
   (try clear c1); (try clear p2); (try clear c5); (try clear c6); (try clear c8); (try clear c8b0); (try clear c8b1); (try clear c14); (try clear hcz11_0); (try clear hcz11_1); (try clear hcz11_2); (try clear hcz11_3); (try clear hcz11_4); (try clear hcz11_5); (try clear hcz11_6); (try clear hcz11_7); (try clear hcz11_8); (try clear hcz12_0); (try clear hcz12_1); (try clear hcz12_2); (try clear hcz12_3); (try clear hcz12_4); (try clear hcz12_5); (try clear hcz12_6); (try clear hcz12_7); (try clear hcz12_8); (try clear hcz14_0); (try clear hcz14_1); (try clear hcz14_2); (try clear hcz14_3); (try clear hcz14_4); (try clear hcz14_5); (try clear hcz14_6); (try clear hcz14_7); (try clear hcz14_8); (try clear hcz6_0); (try clear hcz6_1); (try clear hcz6_2); (try clear hcz6_3); (try clear hcz6_4); (try clear hcz6_5); (try clear hcz6_6); (try clear hcz6_7); (try clear hcz6_8); (try clear hcz9_0); (try clear hcz9_1); (try clear hcz9_2); (try clear hcz9_3); (try clear hcz9_4); (try clear hcz9_5); (try clear hcz9_6); (try clear hcz9_7); (try clear hcz9_8); (try clear hfz11_0); (try clear hfz11_1); (try clear hfz11_2); (try clear hfz11_3); (try clear hfz11_4); (try clear hfz11_5); (try clear hfz11_6); (try clear hfz11_7); (try clear hfz11_8); (try clear hfz12_0); (try clear hfz12_1); (try clear hfz12_2); (try clear hfz12_3); (try clear hfz12_4); (try clear hfz12_5); (try clear hfz12_6); (try clear hfz12_7); (try clear hfz12_8); (try clear hfz14_0); (try clear hfz14_1); (try clear hfz14_2); (try clear hfz14_3); (try clear hfz14_4); (try clear hfz14_5); (try clear hfz14_6); (try clear hfz14_7); (try clear hfz14_8); (try clear hfz6_0); (try clear hfz6_1); (try clear hfz6_2); (try clear hfz6_3); (try clear hfz6_4); (try clear hfz6_5); (try clear hfz6_6); (try clear hfz6_7); (try clear hfz6_8); (try clear hfz9_0); (try clear hfz9_1); (try clear hfz9_2); (try clear hfz9_3); (try clear hfz9_4); (try clear hfz9_5); (try clear hfz9_6); (try clear hfz9_7); (try clear hfz9_8)
   obtain ⟨kq, x40_1, rfl, HA, HJ1, BK168, HB⟩ := hcut
   cases kq with
   | zero => exact absurd HA.out (by simp [thresherlaw20_StreamWhole.j0])
   | succ kj1 =>
    have H := HA.out; clear HA
    simp only [thresherlaw20_StreamWhole.j0] at H
    by_cases c15 : x40_1 = true
    ·
     subst c15
     have H1 : (some true) = some r := by rw [if_pos rfl] at H; exact H
     clear H; have H := H1; clear H1
     obtain rfl := Option.some.inj H
     go_wp2
     go_ret
     exact ⟨by first | rfl | (simp [errW_none, errW_some] <;> rfl) | (simp [*, errW_none, errW_some] <;> rfl), by repeat (first | (with_reducible first | exact HB.out | apply below_alloc | apply pw_below_drewN | apply below_drew1 | refine below_set ?_ GE168.out) | exact HB.out)⟩
    replace c15 := Bool.eq_false_iff.mpr c15
    subst c15
    have H1 : ((stream_Send.f a0_0).bind fun bt170 => ((thresherlaw20_num.f bt170.2.2.2.2).bind fun t176 => (if t176 = 0 then ((stream_New.f).bind fun bt177 => ((thresherref1_Sum.f kj1 a0_0).bind fun t182 => (thresherlaw20_StreamWhole.l0 kj1 t182 0 0 a0_0 a0_1 a0_2 a0_3 a0_4 a0_5 a0_6 a0_7 l0_8 bt170.1 bt170.2.1 bt170.2.2.1 bt170.2.2.2.1 bt177.1 bt177.2.1 bt177.2.2.1 bt177.2.2.2))) else (some false)))) = some r := by rw [if_neg (show ¬ (false = true) by decide)] at H; exact H
    clear H; have H := H1; clear H1
    replace H := Option.bind_eq_some_iff.mp H
    obtain ⟨⟨t170, t171, t172, t173, t174⟩, A160, H⟩ := H
    replace H : ((thresherlaw20_num.f t174).bind fun t176 => (if t176 = 0 then ((stream_New.f).bind fun bt177 => ((thresherref1_Sum.f kj1 a0_0).bind fun t182 => (thresherlaw20_StreamWhole.l0 kj1 t182 0 0 a0_0 a0_1 a0_2 a0_3 a0_4 a0_5 a0_6 a0_7 l0_8 t170 t171 t172 t173 bt177.1 bt177.2.1 bt177.2.2.1 bt177.2.2.2))) else (some false))) = some r := H
    have A16 := Aside0.mk A160; clear A160
    replace H := Option.bind_eq_some_iff.mp H
    obtain ⟨t176, A170, H⟩ := H
    replace H : (if t176 = 0 then ((stream_New.f).bind fun bt177 => ((thresherref1_Sum.f kj1 a0_0).bind fun t182 => (thresherlaw20_StreamWhole.l0 kj1 t182 0 0 a0_0 a0_1 a0_2 a0_3 a0_4 a0_5 a0_6 a0_7 l0_8 t170 t171 t172 t173 bt177.1 bt177.2.1 bt177.2.2.1 bt177.2.2.2))) else (some false)) = some r := H
    have A17 := Aside0.mk A170; clear A170
    by_cases c18 : t176 = 0
    rotate_left
    ·
     rw [if_neg c18] at H
     have c18b0 : (t176 == 0) = false := beq_eq_false_iff_ne.mpr c18
     have c18b1 : (t176 != 0) = true := bne_iff_ne.mpr c18
     obtain rfl := Option.some.inj H
     obtain ⟨hcz218_0, hcz218_1, hcz218_2, hcz218_3, hcz218_4, hcz218_5, hcz218_6, hcz218_7, hcz218_8, hfz218_0, hfz218_1, hfz218_2, hfz218_3, hfz218_4, hfz218_5, hfz218_6, hfz218_7, hfz218_8⟩ := blkall_9 BK168.out
     go_wp2_with (first | ((with_reducible refine gate_callee (f := 28) rfl ?_); refine goesL_ (some 45) rfl rfl Try.func28 (by kernel_rfl) rfl #[.string a0_0] rfl (by (try simp only [List.map_toArray, List.map_cons, List.map_nil]); first | done | rfl | (simp only [List.length_drop, List.length_take]; rfl)) ?_; (with_reducible refine (stream_Send.calls a0_0 t170 t171 t172 t173 t174 _ A16.out).mono ?_); rintro e w219 ⟨rfl, hb⟩; refine ⟨_, rfl, ?_⟩; have n0_ := Aside0.mk (blk_below (g := gb168) (o := .cells #[.string a0_0, .int .i64 a0_1, .int .i64 a0_2, .int .i64 a0_3, .int .i64 a0_4, .int .u32 a0_5, .string a0_6, .bool a0_7, .slice A0_8 l0_8.length c0_8] 35 (0, 0)) (by (with_reducible repeat (first | refine blk_drewN ?_ _ | refine blk_drew ?_ | refine blk_alloc ?_ _)); exact BK168.out) hb); have n1_ := Aside0.mk (below_step (by repeat (first | (with_reducible first | exact HB.out | apply below_alloc | apply pw_below_drewN | apply below_drew1 | refine below_set ?_ GE168.out) | exact HB.out)) hb); clear BK168; clear HB; have BK168 := n0_; have HB := n1_; clear n0_ n1_; (try clear hb); (try clear hb2); (try clear hk); (try clear hi)) | ((with_reducible refine gate_dst (N := 3) rfl ?_); (try (refine gate_guard (by rfl) ?_; dsimp only)); refine box_event ?hg (N := 3) ?hd (cs := #[.string (⟨#[]⟩ : ByteArray), .int .i64 0, .int .i64 0, .int .i64 0]) (t := 30) ?hr ?_; (case hd => rfl); (case hg => rfl); (case hr => first | (go_simp; done) | (go_simp; rfl)); intro gb175 hg w220 hbox hb; have n0_ := Aside0.mk (blk_below (g := gb168) (o := .cells #[.string a0_0, .int .i64 a0_1, .int .i64 a0_2, .int .i64 a0_3, .int .i64 a0_4, .int .u32 a0_5, .string a0_6, .bool a0_7, .slice A0_8 l0_8.length c0_8] 35 (0, 0)) (by (with_reducible repeat (first | refine blk_drewN ?_ _ | refine blk_drew ?_ | refine blk_alloc ?_ _)); exact BK168.out) hb); have n1_ := Aside0.mk (below_step (by repeat (first | (with_reducible first | exact HB.out | apply below_alloc | apply pw_below_drewN | apply below_drew1 | refine below_set ?_ GE168.out) | exact HB.out)) hb); have n2_ := Aside0.mk (hbox); have n3_ := Aside0.mk ((by rw [hg]; exact (below_size (by repeat (first | (with_reducible first | exact HB.out | apply below_alloc | apply pw_below_drewN | apply below_drew1 | refine below_set ?_ GE168.out) | exact HB.out))) : w.heap.size ≤ gb175)); have n4_ := Aside0.mk ((by rw [hg]; exact (below_size (by repeat (first | (with_reducible first | exact HB.out | apply below_alloc | apply pw_below_drewN | apply below_drew1 | refine below_set ?_ GE168.out) | exact HB.out))) : w.heap.size ≤ gb175)); have n5_ := Aside0.mk ((by rw [hg]; exact Nat.ne_of_lt (blk_lt (g := gb168) (o := .cells #[.string a0_0, .int .i64 a0_1, .int .i64 a0_2, .int .i64 a0_3, .int .i64 a0_4, .int .u32 a0_5, .string a0_6, .bool a0_7, .slice A0_8 l0_8.length c0_8] 35 (0, 0)) (by (with_reducible repeat (first | refine blk_drewN ?_ _ | refine blk_drew ?_ | refine blk_alloc ?_ _)); exact BK168.out)) : gb168 ≠ gb175)); have n6_ := Aside0.mk ((by rw [hg]; exact Nat.ne_of_gt (blk_lt (g := gb168) (o := .cells #[.string a0_0, .int .i64 a0_1, .int .i64 a0_2, .int .i64 a0_3, .int .i64 a0_4, .int .u32 a0_5, .string a0_6, .bool a0_7, .slice A0_8 l0_8.length c0_8] 35 (0, 0)) (by (with_reducible repeat (first | refine blk_drewN ?_ _ | refine blk_drew ?_ | refine blk_alloc ?_ _)); exact BK168.out)) : gb175 ≠ gb168)); clear BK168; clear HB; have BK168 := n0_; have HB := n1_; have BK175 := n2_; have GW175 := n3_; have GE175 := n4_; have NB168_175 := n5_; have NB175_168 := n6_; clear n0_ n1_ n2_ n3_ n4_ n5_ n6_; clear hb hbox hg; have hnb221 := NB175_168.out; have hnc221 := NB168_175.out; obtain ⟨hcz222_0, hcz222_1, hcz222_2, hcz222_3, hfz222_0, hfz222_1, hfz222_2, hfz222_3⟩ := blkall_4 BK175.out) | ((with_reducible refine gate_callee (f := 18) rfl ?_); refine goesL_ (some 49) rfl rfl Try.func18 (by kernel_rfl) rfl #[.int .i64 t174] rfl (by (try simp only [List.map_toArray, List.map_cons, List.map_nil]); first | done | rfl | (simp only [List.length_drop, List.length_take]; rfl)) ?_; (with_reducible refine (thresherlaw20_num.calls t174 t176 _ A17.out).mono ?_); rintro e w' ⟨rfl, ⟨nd, rfl⟩⟩; refine ⟨_, rfl, ?_⟩))
     go_ret
     exact ⟨by first | rfl | (simp [errW_none, errW_some] <;> rfl) | (simp [*, errW_none, errW_some] <;> rfl), by repeat (first | (with_reducible first | exact HB.out | apply below_alloc | apply pw_below_drewN | apply below_drew1 | refine below_set ?_ GE168.out | refine below_set ?_ GE175.out) | exact HB.out)⟩
    rw [if_pos c18] at H
    have c18b0 : (t176 == 0) = true := beq_iff_eq.mpr c18
    have c18b1 : (t176 != 0) = false := bne_eq_false_iff_eq.mpr c18
    clear c18
    replace H := Option.bind_eq_some_iff.mp H
    obtain ⟨⟨t177, t178, t179, t180⟩, A190, H⟩ := H
    replace H : ((thresherref1_Sum.f kj1 a0_0).bind fun t182 => (thresherlaw20_StreamWhole.l0 kj1 t182 0 0 a0_0 a0_1 a0_2 a0_3 a0_4 a0_5 a0_6 a0_7 l0_8 t170 t171 t172 t173 t177 t178 t179 t180)) = some r := H
    have A19 := Aside0.mk A190; clear A190
    replace H := Option.bind_eq_some_iff.mp H
    obtain ⟨t182, A200, H⟩ := H
    replace H : (thresherlaw20_StreamWhole.l0 kj1 t182 0 0 a0_0 a0_1 a0_2 a0_3 a0_4 a0_5 a0_6 a0_7 l0_8 t170 t171 t172 t173 t177 t178 t179 t180) = some r := H
    have A20 := Aside0.mk A200; clear A200
    have H' := Aside0.mk H
    clear H
    obtain ⟨hcz21_0, hcz21_1, hcz21_2, hcz21_3, hcz21_4, hcz21_5, hcz21_6, hcz21_7, hcz21_8, hfz21_0, hfz21_1, hfz21_2, hfz21_3, hfz21_4, hfz21_5, hfz21_6, hfz21_7, hfz21_8⟩ := blkall_9 BK168.out
    go_wp2_with (first | ((with_reducible refine gate_callee (f := 28) rfl ?_); refine goesL_ (some 45) rfl rfl Try.func28 (by kernel_rfl) rfl #[.string a0_0] rfl (by (try simp only [List.map_toArray, List.map_cons, List.map_nil]); first | done | rfl | (simp only [List.length_drop, List.length_take]; rfl)) ?_; (with_reducible refine (stream_Send.calls a0_0 t170 t171 t172 t173 t174 _ A16.out).mono ?_); rintro e w22 ⟨rfl, hb⟩; refine ⟨_, rfl, ?_⟩; have n0_ := Aside0.mk (blk_below (g := gb168) (o := .cells #[.string a0_0, .int .i64 a0_1, .int .i64 a0_2, .int .i64 a0_3, .int .i64 a0_4, .int .u32 a0_5, .string a0_6, .bool a0_7, .slice A0_8 l0_8.length c0_8] 35 (0, 0)) (by (with_reducible repeat (first | refine blk_drewN ?_ _ | refine blk_drew ?_ | refine blk_alloc ?_ _)); exact BK168.out) hb); have n1_ := Aside0.mk (below_step (by repeat (first | (with_reducible first | exact HB.out | apply below_alloc | apply pw_below_drewN | apply below_drew1 | refine below_set ?_ GE168.out) | exact HB.out)) hb); clear BK168; clear HB; have BK168 := n0_; have HB := n1_; clear n0_ n1_; (try clear hb); (try clear hb2); (try clear hk); (try clear hi)) | ((with_reducible refine gate_dst (N := 3) rfl ?_); (try (refine gate_guard (by rfl) ?_; dsimp only)); refine box_event ?hg (N := 3) ?hd (cs := #[.string (⟨#[]⟩ : ByteArray), .int .i64 0, .int .i64 0, .int .i64 0]) (t := 30) ?hr ?_; (case hd => rfl); (case hg => rfl); (case hr => first | (go_simp; done) | (go_simp; rfl)); intro gb175 hg w23 hbox hb; have n0_ := Aside0.mk (blk_below (g := gb168) (o := .cells #[.string a0_0, .int .i64 a0_1, .int .i64 a0_2, .int .i64 a0_3, .int .i64 a0_4, .int .u32 a0_5, .string a0_6, .bool a0_7, .slice A0_8 l0_8.length c0_8] 35 (0, 0)) (by (with_reducible repeat (first | refine blk_drewN ?_ _ | refine blk_drew ?_ | refine blk_alloc ?_ _)); exact BK168.out) hb); have n1_ := Aside0.mk (below_step (by repeat (first | (with_reducible first | exact HB.out | apply below_alloc | apply pw_below_drewN | apply below_drew1 | refine below_set ?_ GE168.out) | exact HB.out)) hb); have n2_ := Aside0.mk (hbox); have n3_ := Aside0.mk ((by rw [hg]; exact (below_size (by repeat (first | (with_reducible first | exact HB.out | apply below_alloc | apply pw_below_drewN | apply below_drew1 | refine below_set ?_ GE168.out) | exact HB.out))) : w.heap.size ≤ gb175)); have n4_ := Aside0.mk ((by rw [hg]; exact (below_size (by repeat (first | (with_reducible first | exact HB.out | apply below_alloc | apply pw_below_drewN | apply below_drew1 | refine below_set ?_ GE168.out) | exact HB.out))) : w.heap.size ≤ gb175)); have n5_ := Aside0.mk ((by rw [hg]; exact Nat.ne_of_lt (blk_lt (g := gb168) (o := .cells #[.string a0_0, .int .i64 a0_1, .int .i64 a0_2, .int .i64 a0_3, .int .i64 a0_4, .int .u32 a0_5, .string a0_6, .bool a0_7, .slice A0_8 l0_8.length c0_8] 35 (0, 0)) (by (with_reducible repeat (first | refine blk_drewN ?_ _ | refine blk_drew ?_ | refine blk_alloc ?_ _)); exact BK168.out)) : gb168 ≠ gb175)); have n6_ := Aside0.mk ((by rw [hg]; exact Nat.ne_of_gt (blk_lt (g := gb168) (o := .cells #[.string a0_0, .int .i64 a0_1, .int .i64 a0_2, .int .i64 a0_3, .int .i64 a0_4, .int .u32 a0_5, .string a0_6, .bool a0_7, .slice A0_8 l0_8.length c0_8] 35 (0, 0)) (by (with_reducible repeat (first | refine blk_drewN ?_ _ | refine blk_drew ?_ | refine blk_alloc ?_ _)); exact BK168.out)) : gb175 ≠ gb168)); clear BK168; clear HB; have BK168 := n0_; have HB := n1_; have BK175 := n2_; have GW175 := n3_; have GE175 := n4_; have NB168_175 := n5_; have NB175_168 := n6_; clear n0_ n1_ n2_ n3_ n4_ n5_ n6_; clear hb hbox hg; have hnb24 := NB175_168.out; have hnc24 := NB168_175.out; obtain ⟨hcz25_0, hcz25_1, hcz25_2, hcz25_3, hfz25_0, hfz25_1, hfz25_2, hfz25_3⟩ := blkall_4 BK175.out) | ((with_reducible refine gate_callee (f := 18) rfl ?_); refine goesL_ (some 49) rfl rfl Try.func18 (by kernel_rfl) rfl #[.int .i64 t174] rfl (by (try simp only [List.map_toArray, List.map_cons, List.map_nil]); first | done | rfl | (simp only [List.length_drop, List.length_take]; rfl)) ?_; (with_reducible refine (thresherlaw20_num.calls t174 t176 _ A17.out).mono ?_); rintro e w' ⟨rfl, ⟨nd, rfl⟩⟩; refine ⟨_, rfl, ?_⟩) | ((with_reducible refine gate_callee (f := 30) rfl ?_); refine goesL_ (some 51) rfl rfl Try.func30 (by kernel_rfl) rfl #[] rfl (by (try simp only [List.map_toArray, List.map_cons, List.map_nil]); first | done | rfl | (simp only [List.length_drop, List.length_take]; rfl)) ?_; (with_reducible refine (stream_New.calls  t177 t178 t179 t180 _ A19.out).mono ?_); rintro e w26 ⟨rfl, hb⟩; refine ⟨_, rfl, ?_⟩; have n0_ := Aside0.mk (blk_below (g := gb168) (o := .cells #[.string a0_0, .int .i64 a0_1, .int .i64 a0_2, .int .i64 a0_3, .int .i64 a0_4, .int .u32 a0_5, .string a0_6, .bool a0_7, .slice A0_8 l0_8.length c0_8] 35 (0, 0)) (by (with_reducible repeat (first | refine blk_drewN ?_ _ | refine blk_drew ?_ | refine blk_alloc ?_ _ | refine blk_far ?_ NB168_175.out _)); exact BK168.out) hb); have n1_ := Aside0.mk (blk_below (g := gb175) (o := .cells #[.string t170, .int .i64 t171, .int .i64 t172, .int .i64 t173] 30 (0, 0)) (by (with_reducible repeat (first | refine blk_drewN ?_ _ | refine blk_drew ?_ | refine blk_alloc ?_ _)); refine blk_put (cs := #[.string t170, .int .i64 t171, .int .i64 t172, .int .i64 0]) ?_ 3 _ rfl; (with_reducible repeat (first | refine blk_drewN ?_ _ | refine blk_drew ?_ | refine blk_alloc ?_ _)); refine blk_put (cs := #[.string t170, .int .i64 t171, .int .i64 0, .int .i64 0]) ?_ 2 _ rfl; (with_reducible repeat (first | refine blk_drewN ?_ _ | refine blk_drew ?_ | refine blk_alloc ?_ _)); refine blk_put (cs := #[.string t170, .int .i64 0, .int .i64 0, .int .i64 0]) ?_ 1 _ rfl; (with_reducible repeat (first | refine blk_drewN ?_ _ | refine blk_drew ?_ | refine blk_alloc ?_ _)); refine blk_put (cs := #[.string (⟨#[]⟩ : ByteArray), .int .i64 0, .int .i64 0, .int .i64 0]) ?_ 0 _ rfl; (with_reducible repeat (first | refine blk_drewN ?_ _ | refine blk_drew ?_ | refine blk_alloc ?_ _)); exact BK175.out) hb); have n2_ := Aside0.mk (below_step (by repeat (first | (with_reducible first | exact HB.out | apply below_alloc | apply pw_below_drewN | apply below_drew1 | refine below_set ?_ GE168.out | refine below_set ?_ GE175.out) | exact HB.out)) hb); clear BK168; clear BK175; clear HB; have BK168 := n0_; have BK175 := n1_; have HB := n2_; clear n0_ n1_ n2_; (try clear hb); (try clear hb2); (try clear hk); (try clear hi)) | ((with_reducible refine gate_dst (N := 5) rfl ?_); (try (refine gate_guard (by rfl) ?_; dsimp only)); refine box_event ?hg (N := 5) ?hd (cs := #[.int .i64 0, .int .u32 0, .string (⟨#[]⟩ : ByteArray), .bool false]) (t := 32) ?hr ?_; (case hd => rfl); (case hg => rfl); (case hr => first | (go_simp; done) | (go_simp; rfl)); intro gb181 hg w27 hbox hb; have n0_ := Aside0.mk (blk_below (g := gb168) (o := .cells #[.string a0_0, .int .i64 a0_1, .int .i64 a0_2, .int .i64 a0_3, .int .i64 a0_4, .int .u32 a0_5, .string a0_6, .bool a0_7, .slice A0_8 l0_8.length c0_8] 35 (0, 0)) (by (with_reducible repeat (first | refine blk_drewN ?_ _ | refine blk_drew ?_ | refine blk_alloc ?_ _)); exact BK168.out) hb); have n1_ := Aside0.mk (blk_below (g := gb175) (o := .cells #[.string t170, .int .i64 t171, .int .i64 t172, .int .i64 t173] 30 (0, 0)) (by (with_reducible repeat (first | refine blk_drewN ?_ _ | refine blk_drew ?_ | refine blk_alloc ?_ _)); exact BK175.out) hb); have n2_ := Aside0.mk (below_step (by repeat (first | (with_reducible first | exact HB.out | apply below_alloc | apply pw_below_drewN | apply below_drew1 | refine below_set ?_ GE168.out | refine below_set ?_ GE175.out) | exact HB.out)) hb); have n3_ := Aside0.mk (hbox); have n4_ := Aside0.mk ((by rw [hg]; exact (below_size (by repeat (first | (with_reducible first | exact HB.out | apply below_alloc | apply pw_below_drewN | apply below_drew1 | refine below_set ?_ GE168.out | refine below_set ?_ GE175.out) | exact HB.out))) : w.heap.size ≤ gb181)); have n5_ := Aside0.mk ((by rw [hg]; exact (below_size (by repeat (first | (with_reducible first | exact HB.out | apply below_alloc | apply pw_below_drewN | apply below_drew1 | refine below_set ?_ GE168.out | refine below_set ?_ GE175.out) | exact HB.out))) : w.heap.size ≤ gb181)); have n6_ := Aside0.mk ((by rw [hg]; exact Nat.ne_of_lt (blk_lt (g := gb168) (o := .cells #[.string a0_0, .int .i64 a0_1, .int .i64 a0_2, .int .i64 a0_3, .int .i64 a0_4, .int .u32 a0_5, .string a0_6, .bool a0_7, .slice A0_8 l0_8.length c0_8] 35 (0, 0)) (by (with_reducible repeat (first | refine blk_drewN ?_ _ | refine blk_drew ?_ | refine blk_alloc ?_ _)); exact BK168.out)) : gb168 ≠ gb181)); have n7_ := Aside0.mk ((by rw [hg]; exact Nat.ne_of_gt (blk_lt (g := gb168) (o := .cells #[.string a0_0, .int .i64 a0_1, .int .i64 a0_2, .int .i64 a0_3, .int .i64 a0_4, .int .u32 a0_5, .string a0_6, .bool a0_7, .slice A0_8 l0_8.length c0_8] 35 (0, 0)) (by (with_reducible repeat (first | refine blk_drewN ?_ _ | refine blk_drew ?_ | refine blk_alloc ?_ _)); exact BK168.out)) : gb181 ≠ gb168)); have n8_ := Aside0.mk ((by rw [hg]; exact Nat.ne_of_lt (blk_lt (g := gb175) (o := .cells #[.string t170, .int .i64 t171, .int .i64 t172, .int .i64 t173] 30 (0, 0)) (by (with_reducible repeat (first | refine blk_drewN ?_ _ | refine blk_drew ?_ | refine blk_alloc ?_ _)); exact BK175.out)) : gb175 ≠ gb181)); have n9_ := Aside0.mk ((by rw [hg]; exact Nat.ne_of_gt (blk_lt (g := gb175) (o := .cells #[.string t170, .int .i64 t171, .int .i64 t172, .int .i64 t173] 30 (0, 0)) (by (with_reducible repeat (first | refine blk_drewN ?_ _ | refine blk_drew ?_ | refine blk_alloc ?_ _)); exact BK175.out)) : gb181 ≠ gb175)); clear BK168; clear BK175; clear HB; have BK168 := n0_; have BK175 := n1_; have HB := n2_; have BK181 := n3_; have GW181 := n4_; have GE181 := n5_; have NB168_181 := n6_; have NB181_168 := n7_; have NB175_181 := n8_; have NB181_175 := n9_; clear n0_ n1_ n2_ n3_ n4_ n5_ n6_ n7_ n8_ n9_; clear hb hbox hg; have hnb28 := NB181_168.out; have hnc28 := NB168_181.out; have hnb29 := NB181_175.out; have hnc29 := NB175_181.out; obtain ⟨hcz30_0, hcz30_1, hcz30_2, hcz30_3, hfz30_0, hfz30_1, hfz30_2, hfz30_3⟩ := blkall_4 BK181.out; obtain ⟨hcz31_0, hcz31_1, hcz31_2, hcz31_3, hcz31_4, hcz31_5, hcz31_6, hcz31_7, hcz31_8, hfz31_0, hfz31_1, hfz31_2, hfz31_3, hfz31_4, hfz31_5, hfz31_6, hfz31_7, hfz31_8⟩ := blkall_9 BK168.out) | ((with_reducible refine gate_callee (f := 11) rfl ?_); refine goesL_ (some 55) rfl rfl Try.func11 (by kernel_rfl) rfl #[.string a0_0] rfl (by (try simp only [List.map_toArray, List.map_cons, List.map_nil]); first | done | rfl | (simp only [List.length_drop, List.length_take]; rfl)) ?_; (with_reducible refine (thresherref1_Sum.calls kj1 a0_0 t182 _ A20.out).mono ?_); rintro e w' ⟨rfl, ⟨nd, rfl⟩⟩; refine ⟨_, rfl, ?_⟩))
    go_loopg [7, 8] kj1 (fun kq v7 v8 w' => ∃ (x7_2 : Int) (x8_2 : Int) (x176000_2 : ByteArray) (x176001_2 : Int) (x176002_2 : Int) (x176003_2 : Int) (x182000_2 : Int) (x182001_2 : Int) (x182002_2 : ByteArray) (x182003_2 : Bool), v7 = .int .i64 x7_2 ∧ v8 = .int .i64 x8_2 ∧ Aside0 (thresherlaw20_StreamWhole.l0 kq t182 x7_2 x8_2 a0_0 a0_1 a0_2 a0_3 a0_4 a0_5 a0_6 a0_7 l0_8 x176000_2 x176001_2 x176002_2 x176003_2 x182000_2 x182001_2 x182002_2 x182003_2 = some r) ∧ Aside0 (kq ≤ kj1) ∧ Aside0 (w'.heap[gb168]? = some (.cells #[.string a0_0, .int .i64 a0_1, .int .i64 a0_2, .int .i64 a0_3, .int .i64 a0_4, .int .u32 a0_5, .string a0_6, .bool a0_7, (.slice A0_8 l0_8.length c0_8)] 35 (0, 0))) ∧ Aside0 (w'.heap[gb175]? = some (.cells #[.string x176000_2, .int .i64 x176001_2, .int .i64 x176002_2, .int .i64 x176003_2] 30 (0, 0))) ∧ Aside0 (w'.heap[gb181]? = some (.cells #[.int .i64 x182000_2, .int .u32 x182001_2, .string x182002_2, .bool x182003_2] 32 (0, 0))) ∧ Aside0 (Below w.heap.size w w'))
    case atStart => exact ⟨(0), (0), (t170), (t171), (t172), (t173), (t177), (t178), (t179), (t180), (by first | rfl | (simp; done) | (simp [*]; done)), (by first | rfl | (simp; done) | (simp [*]; done)), H', ⟨Nat.le_refl _⟩, ⟨by (with_reducible repeat (first | refine blk_drewN ?_ _ | refine blk_drew ?_ | refine blk_alloc ?_ _ | refine blk_far ?_ NB168_181.out _)); exact BK168.out⟩, ⟨by (with_reducible repeat (first | refine blk_drewN ?_ _ | refine blk_drew ?_ | refine blk_alloc ?_ _ | refine blk_far ?_ NB175_181.out _)); exact BK175.out⟩, ⟨by (with_reducible repeat (first | refine blk_drewN ?_ _ | refine blk_drew ?_ | refine blk_alloc ?_ _)); refine blk_put (cs := #[.int .i64 t177, .int .u32 t178, .string t179, .bool false]) ?_ 3 _ rfl; (with_reducible repeat (first | refine blk_drewN ?_ _ | refine blk_drew ?_ | refine blk_alloc ?_ _)); refine blk_put (cs := #[.int .i64 t177, .int .u32 t178, .string (⟨#[]⟩ : ByteArray), .bool false]) ?_ 2 _ rfl; (with_reducible repeat (first | refine blk_drewN ?_ _ | refine blk_drew ?_ | refine blk_alloc ?_ _)); refine blk_put (cs := #[.int .i64 t177, .int .u32 0, .string (⟨#[]⟩ : ByteArray), .bool false]) ?_ 1 _ rfl; (with_reducible repeat (first | refine blk_drewN ?_ _ | refine blk_drew ?_ | refine blk_alloc ?_ _)); refine blk_put (cs := #[.int .i64 0, .int .u32 0, .string (⟨#[]⟩ : ByteArray), .bool false]) ?_ 0 _ rfl; (with_reducible repeat (first | refine blk_drewN ?_ _ | refine blk_drew ?_ | refine blk_alloc ?_ _)); exact BK181.out⟩, ⟨by repeat (first | (with_reducible first | exact HB.out | apply below_alloc | apply pw_below_drewN | apply below_drew1 | refine below_set ?_ GE168.out | refine below_set ?_ GE175.out | refine below_set ?_ GE181.out) | exact HB.out)⟩⟩
    case round =>
     as_aux_lemma =>
      clear H'
      (try clear c2); (try clear c3); (try clear c11); (try clear c15); (try clear c18); (try clear c18b0); (try clear c18b1); (try clear c24); (try clear c28); (try clear c29); (try clear c30); (try clear hcz21_0); (try clear hcz21_1); (try clear hcz21_2); (try clear hcz21_3); (try clear hcz21_4); (try clear hcz21_5); (try clear hcz21_6); (try clear hcz21_7); (try clear hcz21_8); (try clear hcz25_0); (try clear hcz25_1); (try clear hcz25_2); (try clear hcz25_3); (try clear hcz30_0); (try clear hcz30_1); (try clear hcz30_2); (try clear hcz30_3); (try clear hcz31_0); (try clear hcz31_1); (try clear hcz31_2); (try clear hcz31_3); (try clear hcz31_4); (try clear hcz31_5); (try clear hcz31_6); (try clear hcz31_7); (try clear hcz31_8); (try clear hfz21_0); (try clear hfz21_1); (try clear hfz21_2); (try clear hfz21_3); (try clear hfz21_4); (try clear hfz21_5); (try clear hfz21_6); (try clear hfz21_7); (try clear hfz21_8); (try clear hfz25_0); (try clear hfz25_1); (try clear hfz25_2); (try clear hfz25_3); (try clear hfz30_0); (try clear hfz30_1); (try clear hfz30_2); (try clear hfz30_3); (try clear hfz31_0); (try clear hfz31_1); (try clear hfz31_2); (try clear hfz31_3); (try clear hfz31_4); (try clear hfz31_5); (try clear hfz31_6); (try clear hfz31_7); (try clear hfz31_8)
      obtain ⟨x7_2, x8_2, x176000_2, x176001_2, x176002_2, x176003_2, x182000_2, x182001_2, x182002_2, x182003_2, rfl, rfl, HA, HK2, BK168, BK175, BK181, HB⟩ := hrel
      cases gk with
      | zero => exact absurd HA.out (by simp [thresherlaw20_StreamWhole.l0])
      | succ k2 =>
       have H := HA.out; clear HA
       simp only [thresherlaw20_StreamWhole.l0] at H
       have HC32 := Aside0.mk H; clear H
       go_upto_region 10 with (fail)
       go_cut [66] (fun v66 wc => ∃ (kq : Nat) (x66_31 : Bool), v66 = .bool x66_31 ∧ Aside0 (thresherlaw20_StreamWhole.j2 kq t182 x7_2 x8_2 x66_31 a0_0 a0_1 a0_2 a0_3 a0_4 a0_5 a0_6 a0_7 l0_8 x176000_2 x176001_2 x176002_2 x176003_2 x182000_2 x182001_2 x182002_2 x182003_2 = some r) ∧ Aside0 (kq ≤ k2) ∧ Aside0 (wc.heap[gb168]? = some (.cells #[.string a0_0, .int .i64 a0_1, .int .i64 a0_2, .int .i64 a0_3, .int .i64 a0_4, .int .u32 a0_5, .string a0_6, .bool a0_7, (.slice A0_8 l0_8.length c0_8)] 35 (0, 0))) ∧ Aside0 (wc.heap[gb175]? = some (.cells #[.string x176000_2, .int .i64 x176001_2, .int .i64 x176002_2, .int .i64 x176003_2] 30 (0, 0))) ∧ Aside0 (wc.heap[gb181]? = some (.cells #[.int .i64 x182000_2, .int .u32 x182001_2, .string x182002_2, .bool x182003_2] 32 (0, 0))) ∧ Aside0 (Below w.heap.size w wc))
       case first =>
        as_aux_lemma =>
         have H := HC32.out; clear HC32
         by_cases c33 : x8_2 < (wrap64 ((l0_8.length : Int) + 1200))
         rotate_left
         ·
          rw [if_neg c33] at H
          have c33b0 : decide (x8_2 < (wrap64 ((l0_8.length : Int) + 1200))) = false := decide_eq_false c33
          clear c33
          (first | rw [c33b0] | (simp only [i64_w, i32_w]; rw [c33b0]) | skip)
          have H' := Aside0.mk H
          clear H; have hnb39 := NB168_175.out; have hnc39 := NB175_168.out; have hnb40 := NB168_181.out; have hnc40 := NB181_168.out
          obtain ⟨hcz41_0, hcz41_1, hcz41_2, hcz41_3, hcz41_4, hcz41_5, hcz41_6, hcz41_7, hcz41_8, hfz41_0, hfz41_1, hfz41_2, hfz41_3, hfz41_4, hfz41_5, hfz41_6, hfz41_7, hfz41_8⟩ := blkall_9 BK168.out
          go_wp2
          go_meet
          case rel => exact ⟨_, (false), (by first | rfl | (simp; done) | (simp [*]; done)), H', ⟨by have := HJ1.out; have := HK2.out; first | omega | exact Nat.le_refl _⟩, ⟨by (with_reducible repeat (first | refine blk_drewN ?_ _ | refine blk_drew ?_ | refine blk_alloc ?_ _)); exact BK168.out⟩, ⟨by (with_reducible repeat (first | refine blk_drewN ?_ _ | refine blk_drew ?_ | refine blk_alloc ?_ _)); exact BK175.out⟩, ⟨by (with_reducible repeat (first | refine blk_drewN ?_ _ | refine blk_drew ?_ | refine blk_alloc ?_ _)); exact BK181.out⟩, ⟨by repeat (first | (with_reducible first | exact HB.out | apply below_alloc | apply pw_below_drewN | apply below_drew1 | refine below_set ?_ GE168.out | refine below_set ?_ GE175.out | refine below_set ?_ GE181.out) | exact HB.out)⟩⟩
         rw [if_pos c33] at H
         have c33b0 : decide (x8_2 < (wrap64 ((l0_8.length : Int) + 1200))) = true := decide_eq_true c33
         clear c33
         (first | rw [c33b0] | (simp only [i64_w, i32_w]; rw [c33b0]) | skip)
         have H' := Aside0.mk H
         clear H; have hnb34 := NB168_175.out; have hnc34 := NB175_168.out; have hnb35 := NB168_181.out; have hnc35 := NB181_168.out
         obtain ⟨hcz36_0, hcz36_1, hcz36_2, hcz36_3, hcz36_4, hcz36_5, hcz36_6, hcz36_7, hcz36_8, hfz36_0, hfz36_1, hfz36_2, hfz36_3, hfz36_4, hfz36_5, hfz36_6, hfz36_7, hfz36_8⟩ := blkall_9 BK168.out
         have hnb37 := NB181_175.out; have hnc37 := NB175_181.out
         obtain ⟨hcz38_0, hcz38_1, hcz38_2, hcz38_3, hfz38_0, hfz38_1, hfz38_2, hfz38_3⟩ := blkall_4 BK181.out
         go_wp2
         go_meet
         case rel => exact ⟨_, (!x182003_2), (by first | rfl | (simp; done) | (simp [*]; done)), H', ⟨by have := HJ1.out; have := HK2.out; first | omega | exact Nat.le_refl _⟩, ⟨by (with_reducible repeat (first | refine blk_drewN ?_ _ | refine blk_drew ?_ | refine blk_alloc ?_ _)); exact BK168.out⟩, ⟨by (with_reducible repeat (first | refine blk_drewN ?_ _ | refine blk_drew ?_ | refine blk_alloc ?_ _)); exact BK175.out⟩, ⟨by (with_reducible repeat (first | refine blk_drewN ?_ _ | refine blk_drew ?_ | refine blk_alloc ?_ _)); exact BK181.out⟩, ⟨by repeat (first | (with_reducible first | exact HB.out | apply below_alloc | apply pw_below_drewN | apply below_drew1 | refine below_set ?_ GE168.out | refine below_set ?_ GE175.out | refine below_set ?_ GE181.out) | exact HB.out)⟩⟩
       case rest =>
        as_aux_lemma =>
         clear HC32
         (try clear c4); (try clear p6); (try clear c33); (try clear c33b0); (try clear c34); (try clear c35); (try clear c37); (try clear c39); (try clear c40); (try clear hcz36_0); (try clear hcz36_1); (try clear hcz36_2); (try clear hcz36_3); (try clear hcz36_4); (try clear hcz36_5); (try clear hcz36_6); (try clear hcz36_7); (try clear hcz36_8); (try clear hcz38_0); (try clear hcz38_1); (try clear hcz38_2); (try clear hcz38_3); (try clear hcz41_0); (try clear hcz41_1); (try clear hcz41_2); (try clear hcz41_3); (try clear hcz41_4); (try clear hcz41_5); (try clear hcz41_6); (try clear hcz41_7); (try clear hcz41_8); (try clear hfz36_0); (try clear hfz36_1); (try clear hfz36_2); (try clear hfz36_3); (try clear hfz36_4); (try clear hfz36_5); (try clear hfz36_6); (try clear hfz36_7); (try clear hfz36_8); (try clear hfz38_0); (try clear hfz38_1); (try clear hfz38_2); (try clear hfz38_3); (try clear hfz41_0); (try clear hfz41_1); (try clear hfz41_2); (try clear hfz41_3); (try clear hfz41_4); (try clear hfz41_5); (try clear hfz41_6); (try clear hfz41_7); (try clear hfz41_8)
         obtain ⟨kq, x66_31, rfl, HA, HJ31, BK168, BK175, BK181, HB⟩ := hcut
         cases kq with
         | zero => exact absurd HA.out (by simp [thresherlaw20_StreamWhole.j2])
         | succ kj31 =>
          have H := HA.out; clear HA
          simp only [thresherlaw20_StreamWhole.j2] at H
          by_cases c42 : x66_31 = true
          rotate_left
          ·
           replace c42 := Bool.eq_false_iff.mpr c42
           subst c42
           have H1 : (if x182003_2 = true then (if x182002_2.toList = a0_0.toList then ((thresherlaw20_wakes.f kj31).bind fun t183 => (some t183)) else (some false)) else (some false)) = some r := by rw [if_neg (show ¬ (false = true) by decide)] at H; exact H
           clear H; have H := H1; clear H1
           by_cases c201 : x182003_2 = true
           rotate_left
           ·
            replace c201 := Bool.eq_false_iff.mpr c201
            subst c201
            have H1 : (some false) = some r := by rw [if_neg (show ¬ (false = true) by decide)] at H; exact H
            clear H; have H := H1; clear H1
            obtain rfl := Option.some.inj H
            have hnb215 := NB181_168.out; have hnc215 := NB168_181.out; have hnb216 := NB181_175.out; have hnc216 := NB175_181.out
            obtain ⟨hcz217_0, hcz217_1, hcz217_2, hcz217_3, hfz217_0, hfz217_1, hfz217_2, hfz217_3⟩ := blkall_4 BK181.out
            go_wp2
            go_ret
            exact ⟨by first | rfl | (simp [errW_none, errW_some] <;> rfl) | (simp [*, errW_none, errW_some] <;> rfl), by repeat (first | (with_reducible first | exact HB.out | apply below_alloc | apply pw_below_drewN | apply below_drew1 | refine below_set ?_ GE168.out | refine below_set ?_ GE175.out | refine below_set ?_ GE181.out) | exact HB.out)⟩
           subst c201
           have H1 : (if x182002_2.toList = a0_0.toList then ((thresherlaw20_wakes.f kj31).bind fun t183 => (some t183)) else (some false)) = some r := by rw [if_pos rfl] at H; exact H
           clear H; have H := H1; clear H1
           by_cases c202 : x182002_2.toList = a0_0.toList
           rotate_left
           ·
            rw [if_neg c202] at H
            have c202b0 : (x182002_2.toList == a0_0.toList) = false := beq_eq_false_iff_ne.mpr c202
            have c202b1 : (x182002_2.toList != a0_0.toList) = true := bne_iff_ne.mpr c202
            obtain rfl := Option.some.inj H
            have hnb210 := NB181_168.out; have hnc210 := NB168_181.out; have hnb211 := NB181_175.out; have hnc211 := NB175_181.out
            obtain ⟨hcz212_0, hcz212_1, hcz212_2, hcz212_3, hfz212_0, hfz212_1, hfz212_2, hfz212_3⟩ := blkall_4 BK181.out
            have hnb213 := NB168_175.out; have hnc213 := NB175_168.out
            obtain ⟨hcz214_0, hcz214_1, hcz214_2, hcz214_3, hcz214_4, hcz214_5, hcz214_6, hcz214_7, hcz214_8, hfz214_0, hfz214_1, hfz214_2, hfz214_3, hfz214_4, hfz214_5, hfz214_6, hfz214_7, hfz214_8⟩ := blkall_9 BK168.out
            go_wp2
            go_ret
            exact ⟨by first | rfl | (simp [errW_none, errW_some] <;> rfl) | (simp [*, errW_none, errW_some] <;> rfl), by repeat (first | (with_reducible first | exact HB.out | apply below_alloc | apply pw_below_drewN | apply below_drew1 | refine below_set ?_ GE168.out | refine below_set ?_ GE175.out | refine below_set ?_ GE181.out) | exact HB.out)⟩
           rw [if_pos c202] at H
           have c202b0 : (x182002_2.toList == a0_0.toList) = true := beq_iff_eq.mpr c202
           have c202b1 : (x182002_2.toList != a0_0.toList) = false := bne_eq_false_iff_eq.mpr c202
           clear c202
           replace H := Option.bind_eq_some_iff.mp H
           obtain ⟨t183, A2030, H⟩ := H
           replace H : (some t183) = some r := H
           have A203 := Aside0.mk A2030; clear A2030
           obtain rfl := Option.some.inj H
           have hnb204 := NB181_168.out; have hnc204 := NB168_181.out; have hnb205 := NB181_175.out; have hnc205 := NB175_181.out
           obtain ⟨hcz206_0, hcz206_1, hcz206_2, hcz206_3, hfz206_0, hfz206_1, hfz206_2, hfz206_3⟩ := blkall_4 BK181.out
           have hnb207 := NB168_175.out; have hnc207 := NB175_168.out
           obtain ⟨hcz208_0, hcz208_1, hcz208_2, hcz208_3, hcz208_4, hcz208_5, hcz208_6, hcz208_7, hcz208_8, hfz208_0, hfz208_1, hfz208_2, hfz208_3, hfz208_4, hfz208_5, hfz208_6, hfz208_7, hfz208_8⟩ := blkall_9 BK168.out
           go_wp2_with (first | (go_at_call 32; (with_reducible refine (thresherlaw20_wakes.calls kj31  t183 _ A203.out).mono ?_); rintro e w209 ⟨rfl, hb⟩; have n0_ := Aside0.mk (blk_below (g := gb168) (o := .cells #[.string a0_0, .int .i64 a0_1, .int .i64 a0_2, .int .i64 a0_3, .int .i64 a0_4, .int .u32 a0_5, .string a0_6, .bool a0_7, .slice A0_8 l0_8.length c0_8] 35 (0, 0)) (by (with_reducible repeat (first | refine blk_drewN ?_ _ | refine blk_drew ?_ | refine blk_alloc ?_ _)); exact BK168.out) hb); have n1_ := Aside0.mk (blk_below (g := gb175) (o := .cells #[.string x176000_2, .int .i64 x176001_2, .int .i64 x176002_2, .int .i64 x176003_2] 30 (0, 0)) (by (with_reducible repeat (first | refine blk_drewN ?_ _ | refine blk_drew ?_ | refine blk_alloc ?_ _)); exact BK175.out) hb); have n2_ := Aside0.mk (blk_below (g := gb181) (o := .cells #[.int .i64 x182000_2, .int .u32 x182001_2, .string x182002_2, .bool true] 32 (0, 0)) (by (with_reducible repeat (first | refine blk_drewN ?_ _ | refine blk_drew ?_ | refine blk_alloc ?_ _)); exact BK181.out) hb); have n3_ := Aside0.mk (below_step (by repeat (first | (with_reducible first | exact HB.out | apply below_alloc | apply pw_below_drewN | apply below_drew1 | refine below_set ?_ GE168.out | refine below_set ?_ GE175.out | refine below_set ?_ GE181.out) | exact HB.out)) hb); clear BK168; clear BK175; clear BK181; clear HB; have BK168 := n0_; have BK175 := n1_; have BK181 := n2_; have HB := n3_; clear n0_ n1_ n2_ n3_; (try clear hb); (try clear hb2); (try clear hk); (try clear hi)))
           go_ret
           exact ⟨by first | rfl | (simp [errW_none, errW_some] <;> rfl) | (simp [*, errW_none, errW_some] <;> rfl), by repeat (first | (with_reducible first | exact HB.out | apply below_alloc | apply pw_below_drewN | apply below_drew1 | refine below_set ?_ GE168.out | refine below_set ?_ GE175.out | refine below_set ?_ GE181.out) | exact HB.out)⟩
          subst c42
          have H1 : ((stream_Tick.f kj31 x176000_2 x176001_2 x176002_2 x176003_2).bind fun bt184 => ((thresherlaw20_num.f bt184.2.2.2.2.2).bind fun t193 => (if t193 = 0 then (thresherlaw20_StreamWhole.j3 kj31 t182 x7_2 x8_2 bt184.2.2.2.2.1 (decide ((bt184.2.2.2.2.1.length : Int) > 3)) a0_0 a0_1 a0_2 a0_3 a0_4 a0_5 a0_6 a0_7 l0_8 x182000_2 x182001_2 x182002_2 x182003_2 bt184.1 bt184.2.1 bt184.2.2.1 bt184.2.2.2.1) else (thresherlaw20_StreamWhole.j3 kj31 t182 x7_2 x8_2 bt184.2.2.2.2.1 true a0_0 a0_1 a0_2 a0_3 a0_4 a0_5 a0_6 a0_7 l0_8 x182000_2 x182001_2 x182002_2 x182003_2 bt184.1 bt184.2.1 bt184.2.2.1 bt184.2.2.2.1)))) = some r := by rw [if_pos rfl] at H; exact H
          clear H; have H := H1; clear H1
          replace H := Option.bind_eq_some_iff.mp H
          obtain ⟨⟨t184, t185, t186, t187, t188, t191⟩, A430, H⟩ := H
          replace H : ((thresherlaw20_num.f t191).bind fun t193 => (if t193 = 0 then (thresherlaw20_StreamWhole.j3 kj31 t182 x7_2 x8_2 t188 (decide ((t188.length : Int) > 3)) a0_0 a0_1 a0_2 a0_3 a0_4 a0_5 a0_6 a0_7 l0_8 x182000_2 x182001_2 x182002_2 x182003_2 t184 t185 t186 t187) else (thresherlaw20_StreamWhole.j3 kj31 t182 x7_2 x8_2 t188 true a0_0 a0_1 a0_2 a0_3 a0_4 a0_5 a0_6 a0_7 l0_8 x182000_2 x182001_2 x182002_2 x182003_2 t184 t185 t186 t187))) = some r := H
          have A43 := Aside0.mk A430; clear A430; have HC44 := Aside0.mk H; clear H; have hnb45 := NB175_168.out; have hnc45 := NB168_175.out; have hnb46 := NB175_181.out; have hnc46 := NB181_175.out
          obtain ⟨hcz47_0, hcz47_1, hcz47_2, hcz47_3, hfz47_0, hfz47_1, hfz47_2, hfz47_3⟩ := blkall_4 BK175.out
          go_upto_region 13 with (first | ((with_reducible refine gate_callee (f := 16) rfl ?_); refine goesL_ (some 71) rfl rfl Try.func16 (by kernel_rfl) rfl #[.agg #[.string x176000_2, .int .i64 x176001_2, .int .i64 x176002_2, .int .i64 x176003_2]] rfl (by (try simp only [List.map_toArray, List.map_cons, List.map_nil]); first | done | rfl | (simp only [List.length_drop, List.length_take]; rfl)) ?_; (with_reducible refine (stream_Tick.calls kj31 x176000_2 x176001_2 x176002_2 x176003_2 t184 t185 t186 t187 t188 t191 _ A43.out).mono ?_); rintro e w48 ⟨v189, rfl, ho0, hb⟩; refine ⟨_, rfl, ?_⟩; have n0_ := Aside0.mk (Kd.R_lower ho0 (below_size (by repeat (first | (with_reducible first | exact HB.out | apply below_alloc | apply pw_below_drewN | apply below_drew1 | refine below_set ?_ GE168.out | refine below_set ?_ GE175.out | refine below_set ?_ GE181.out) | exact HB.out)))); have n1_ := Aside0.mk (blk_below (g := gb168) (o := .cells #[.string a0_0, .int .i64 a0_1, .int .i64 a0_2, .int .i64 a0_3, .int .i64 a0_4, .int .u32 a0_5, .string a0_6, .bool a0_7, .slice A0_8 l0_8.length c0_8] 35 (0, 0)) (by (with_reducible repeat (first | refine blk_drewN ?_ _ | refine blk_drew ?_ | refine blk_alloc ?_ _)); exact BK168.out) hb); have n2_ := Aside0.mk (blk_below (g := gb175) (o := .cells #[.string x176000_2, .int .i64 x176001_2, .int .i64 x176002_2, .int .i64 x176003_2] 30 (0, 0)) (by (with_reducible repeat (first | refine blk_drewN ?_ _ | refine blk_drew ?_ | refine blk_alloc ?_ _)); exact BK175.out) hb); have n3_ := Aside0.mk (blk_below (g := gb181) (o := .cells #[.int .i64 x182000_2, .int .u32 x182001_2, .string x182002_2, .bool x182003_2] 32 (0, 0)) (by (with_reducible repeat (first | refine blk_drewN ?_ _ | refine blk_drew ?_ | refine blk_alloc ?_ _)); exact BK181.out) hb); have n4_ := Aside0.mk (below_step (by repeat (first | (with_reducible first | exact HB.out | apply below_alloc | apply pw_below_drewN | apply below_drew1 | refine below_set ?_ GE168.out | refine below_set ?_ GE175.out | refine below_set ?_ GE181.out) | exact HB.out)) hb); clear BK168; clear BK175; clear BK181; clear HB; have HO190 := n0_; have BK168 := n1_; have BK175 := n2_; have BK181 := n3_; have HB := n4_; clear n0_ n1_ n2_ n3_ n4_; (try clear hb); (try clear hb2); (try clear hk); (try clear hi); (try clear ho0)) | ((with_reducible refine gate_dst (N := 9) rfl ?_); (try (refine gate_guard (by rfl) ?_; dsimp only)); refine box_event ?hg (N := 9) ?hd (cs := #[.string (⟨#[]⟩ : ByteArray), .int .i64 0, .int .i64 0, .int .i64 0]) (t := 30) ?hr ?_; (case hd => rfl); (case hg => rfl); (case hr => first | (go_simp; done) | (go_simp; rfl)); intro gb192 hg w49 hbox hb; have n0_ := Aside0.mk (Kd.R_below (by (with_reducible repeat (first | apply Kd.R_alloc | apply Kd.R_drewN | apply Kd.R_drew)); exact HO190.out) hb); have n1_ := Aside0.mk (blk_below (g := gb168) (o := .cells #[.string a0_0, .int .i64 a0_1, .int .i64 a0_2, .int .i64 a0_3, .int .i64 a0_4, .int .u32 a0_5, .string a0_6, .bool a0_7, .slice A0_8 l0_8.length c0_8] 35 (0, 0)) (by (with_reducible repeat (first | refine blk_drewN ?_ _ | refine blk_drew ?_ | refine blk_alloc ?_ _)); exact BK168.out) hb); have n2_ := Aside0.mk (blk_below (g := gb175) (o := .cells #[.string x176000_2, .int .i64 x176001_2, .int .i64 x176002_2, .int .i64 x176003_2] 30 (0, 0)) (by (with_reducible repeat (first | refine blk_drewN ?_ _ | refine blk_drew ?_ | refine blk_alloc ?_ _)); exact BK175.out) hb); have n3_ := Aside0.mk (blk_below (g := gb181) (o := .cells #[.int .i64 x182000_2, .int .u32 x182001_2, .string x182002_2, .bool x182003_2] 32 (0, 0)) (by (with_reducible repeat (first | refine blk_drewN ?_ _ | refine blk_drew ?_ | refine blk_alloc ?_ _)); exact BK181.out) hb); have n4_ := Aside0.mk (below_step (by repeat (first | (with_reducible first | exact HB.out | apply below_alloc | apply pw_below_drewN | apply below_drew1 | refine below_set ?_ GE168.out | refine below_set ?_ GE175.out | refine below_set ?_ GE181.out) | exact HB.out)) hb); have n5_ := Aside0.mk (hbox); have n6_ := Aside0.mk ((by rw [hg]; exact (below_size (by repeat (first | (with_reducible first | exact HB.out | apply below_alloc | apply pw_below_drewN | apply below_drew1 | refine below_set ?_ GE168.out | refine below_set ?_ GE175.out | refine below_set ?_ GE181.out) | exact HB.out))) : w.heap.size ≤ gb192)); have n7_ := Aside0.mk ((by rw [hg]; exact (below_size (by repeat (first | (with_reducible first | exact HB.out | apply below_alloc | apply pw_below_drewN | apply below_drew1 | refine below_set ?_ GE168.out | refine below_set ?_ GE175.out | refine below_set ?_ GE181.out) | exact HB.out))) : w.heap.size ≤ gb192)); have n8_ := Aside0.mk ((by rw [hg]; exact Nat.ne_of_lt (blk_lt (g := gb168) (o := .cells #[.string a0_0, .int .i64 a0_1, .int .i64 a0_2, .int .i64 a0_3, .int .i64 a0_4, .int .u32 a0_5, .string a0_6, .bool a0_7, .slice A0_8 l0_8.length c0_8] 35 (0, 0)) (by (with_reducible repeat (first | refine blk_drewN ?_ _ | refine blk_drew ?_ | refine blk_alloc ?_ _)); exact BK168.out)) : gb168 ≠ gb192)); have n9_ := Aside0.mk ((by rw [hg]; exact Nat.ne_of_gt (blk_lt (g := gb168) (o := .cells #[.string a0_0, .int .i64 a0_1, .int .i64 a0_2, .int .i64 a0_3, .int .i64 a0_4, .int .u32 a0_5, .string a0_6, .bool a0_7, .slice A0_8 l0_8.length c0_8] 35 (0, 0)) (by (with_reducible repeat (first | refine blk_drewN ?_ _ | refine blk_drew ?_ | refine blk_alloc ?_ _)); exact BK168.out)) : gb192 ≠ gb168)); have n10_ := Aside0.mk ((by rw [hg]; exact Nat.ne_of_lt (blk_lt (g := gb175) (o := .cells #[.string x176000_2, .int .i64 x176001_2, .int .i64 x176002_2, .int .i64 x176003_2] 30 (0, 0)) (by (with_reducible repeat (first | refine blk_drewN ?_ _ | refine blk_drew ?_ | refine blk_alloc ?_ _)); exact BK175.out)) : gb175 ≠ gb192)); have n11_ := Aside0.mk ((by rw [hg]; exact Nat.ne_of_gt (blk_lt (g := gb175) (o := .cells #[.string x176000_2, .int .i64 x176001_2, .int .i64 x176002_2, .int .i64 x176003_2] 30 (0, 0)) (by (with_reducible repeat (first | refine blk_drewN ?_ _ | refine blk_drew ?_ | refine blk_alloc ?_ _)); exact BK175.out)) : gb192 ≠ gb175)); have n12_ := Aside0.mk ((by rw [hg]; exact Nat.ne_of_lt (blk_lt (g := gb181) (o := .cells #[.int .i64 x182000_2, .int .u32 x182001_2, .string x182002_2, .bool x182003_2] 32 (0, 0)) (by (with_reducible repeat (first | refine blk_drewN ?_ _ | refine blk_drew ?_ | refine blk_alloc ?_ _)); exact BK181.out)) : gb181 ≠ gb192)); have n13_ := Aside0.mk ((by rw [hg]; exact Nat.ne_of_gt (blk_lt (g := gb181) (o := .cells #[.int .i64 x182000_2, .int .u32 x182001_2, .string x182002_2, .bool x182003_2] 32 (0, 0)) (by (with_reducible repeat (first | refine blk_drewN ?_ _ | refine blk_drew ?_ | refine blk_alloc ?_ _)); exact BK181.out)) : gb192 ≠ gb181)); clear HO190; clear BK168; clear BK175; clear BK181; clear HB; have HO190 := n0_; have BK168 := n1_; have BK175 := n2_; have BK181 := n3_; have HB := n4_; have BK192 := n5_; have GW192 := n6_; have GE192 := n7_; have NB168_192 := n8_; have NB192_168 := n9_; have NB175_192 := n10_; have NB192_175 := n11_; have NB181_192 := n12_; have NB192_181 := n13_; clear n0_ n1_ n2_ n3_ n4_ n5_ n6_ n7_ n8_ n9_ n10_ n11_ n12_ n13_; clear hb hbox hg; have hnb50 := NB192_168.out; have hnc50 := NB168_192.out; have hnb51 := NB192_175.out; have hnc51 := NB175_192.out; have hnb52 := NB192_181.out; have hnc52 := NB181_192.out; obtain ⟨hcz53_0, hcz53_1, hcz53_2, hcz53_3, hfz53_0, hfz53_1, hfz53_2, hfz53_3⟩ := blkall_4 BK192.out))
          (try simp only [Act.put, List.setIfInBounds_toArray, List.set_cons_zero, List.set_cons_succ])
          go_cut [82] (fun v82 wc => ∃ (kq : Nat) (x82_43 : Bool), v82 = .bool x82_43 ∧ Aside0 (thresherlaw20_StreamWhole.j3 kq t182 x7_2 x8_2 t188 x82_43 a0_0 a0_1 a0_2 a0_3 a0_4 a0_5 a0_6 a0_7 l0_8 x182000_2 x182001_2 x182002_2 x182003_2 t184 t185 t186 t187 = some r) ∧ Aside0 (kq ≤ kj31) ∧ Aside0 (Kd.R (Kd.int .i64) 3 wc w.heap.size (fun _ => True) v189 t188) ∧ Aside0 (wc.heap[gb168]? = some (.cells #[.string a0_0, .int .i64 a0_1, .int .i64 a0_2, .int .i64 a0_3, .int .i64 a0_4, .int .u32 a0_5, .string a0_6, .bool a0_7, (.slice A0_8 l0_8.length c0_8)] 35 (0, 0))) ∧ Aside0 (wc.heap[gb175]? = some (.cells #[.string x176000_2, .int .i64 x176001_2, .int .i64 x176002_2, .int .i64 x176003_2] 30 (0, 0))) ∧ Aside0 (wc.heap[gb181]? = some (.cells #[.int .i64 x182000_2, .int .u32 x182001_2, .string x182002_2, .bool x182003_2] 32 (0, 0))) ∧ Aside0 (wc.heap[gb192]? = some (.cells #[.string t184, .int .i64 t185, .int .i64 t186, .int .i64 t187] 30 (0, 0))) ∧ Aside0 (Below w.heap.size w wc))
          case first =>
           as_aux_lemma =>
            have H := HC44.out; clear HC44
            replace H := Option.bind_eq_some_iff.mp H
            obtain ⟨t193, A540, H⟩ := H
            replace H : (if t193 = 0 then (thresherlaw20_StreamWhole.j3 kj31 t182 x7_2 x8_2 t188 (decide ((t188.length : Int) > 3)) a0_0 a0_1 a0_2 a0_3 a0_4 a0_5 a0_6 a0_7 l0_8 x182000_2 x182001_2 x182002_2 x182003_2 t184 t185 t186 t187) else (thresherlaw20_StreamWhole.j3 kj31 t182 x7_2 x8_2 t188 true a0_0 a0_1 a0_2 a0_3 a0_4 a0_5 a0_6 a0_7 l0_8 x182000_2 x182001_2 x182002_2 x182003_2 t184 t185 t186 t187)) = some r := H
            have A54 := Aside0.mk A540; clear A540
            by_cases c55 : t193 = 0
            rotate_left
            ·
             rw [if_neg c55] at H
             have c55b0 : (t193 == 0) = false := beq_eq_false_iff_ne.mpr c55
             have c55b1 : (t193 != 0) = true := bne_iff_ne.mpr c55
             (first | rw [c55b0] | (simp only [i64_w, i32_w]; rw [c55b0]) | skip)
             have H' := Aside0.mk H
             clear H
             go_wp2_with (first | ((with_reducible refine gate_callee (f := 18) rfl ?_); refine goesL_ (some 76) rfl rfl Try.func18 (by kernel_rfl) rfl #[.int .i64 t191] rfl (by (try simp only [List.map_toArray, List.map_cons, List.map_nil]); first | done | rfl | (simp only [List.length_drop, List.length_take]; rfl)) ?_; (with_reducible refine (thresherlaw20_num.calls t191 t193 _ A54.out).mono ?_); rintro e w' ⟨rfl, ⟨nd, rfl⟩⟩; refine ⟨_, rfl, ?_⟩))
             go_meet
             case rel => exact ⟨_, (true), (by first | rfl | (simp; done) | (simp [*]; done)), H', ⟨by have := HJ1.out; have := HK2.out; have := HJ31.out; first | omega | exact Nat.le_refl _⟩, ⟨by (with_reducible repeat (first | apply Kd.R_alloc | apply Kd.R_drewN | apply Kd.R_drew)); exact Kd.R_mono (Kd.R_far (p := ⟨gb192, 3, none⟩) (Kd.R_far (p := ⟨gb192, 2, none⟩) (Kd.R_far (p := ⟨gb192, 1, none⟩) (Kd.R_far (p := ⟨gb192, 0, none⟩) (Kd.R_types HO190.out BK192.out (by decide)) (fun _ hk => hk.2) (.string t184)) (fun _ hk => hk.2) (.int .i64 t185)) (fun _ hk => hk.2) (.int .i64 t186)) (fun _ hk => hk.2) (.int .i64 t187)) (fun _ hk => trivial)⟩, ⟨by (with_reducible repeat (first | refine blk_drewN ?_ _ | refine blk_drew ?_ | refine blk_alloc ?_ _ | refine blk_far ?_ NB168_192.out _)); exact BK168.out⟩, ⟨by (with_reducible repeat (first | refine blk_drewN ?_ _ | refine blk_drew ?_ | refine blk_alloc ?_ _ | refine blk_far ?_ NB175_192.out _)); exact BK175.out⟩, ⟨by (with_reducible repeat (first | refine blk_drewN ?_ _ | refine blk_drew ?_ | refine blk_alloc ?_ _ | refine blk_far ?_ NB181_192.out _)); exact BK181.out⟩, ⟨by (with_reducible repeat (first | refine blk_drewN ?_ _ | refine blk_drew ?_ | refine blk_alloc ?_ _)); refine blk_put (cs := #[.string t184, .int .i64 t185, .int .i64 t186, .int .i64 0]) ?_ 3 _ rfl; (with_reducible repeat (first | refine blk_drewN ?_ _ | refine blk_drew ?_ | refine blk_alloc ?_ _)); refine blk_put (cs := #[.string t184, .int .i64 t185, .int .i64 0, .int .i64 0]) ?_ 2 _ rfl; (with_reducible repeat (first | refine blk_drewN ?_ _ | refine blk_drew ?_ | refine blk_alloc ?_ _)); refine blk_put (cs := #[.string t184, .int .i64 0, .int .i64 0, .int .i64 0]) ?_ 1 _ rfl; (with_reducible repeat (first | refine blk_drewN ?_ _ | refine blk_drew ?_ | refine blk_alloc ?_ _)); refine blk_put (cs := #[.string (⟨#[]⟩ : ByteArray), .int .i64 0, .int .i64 0, .int .i64 0]) ?_ 0 _ rfl; (with_reducible repeat (first | refine blk_drewN ?_ _ | refine blk_drew ?_ | refine blk_alloc ?_ _)); exact BK192.out⟩, ⟨by repeat (first | (with_reducible first | exact HB.out | apply below_alloc | apply pw_below_drewN | apply below_drew1 | refine below_set ?_ GE168.out | refine below_set ?_ GE175.out | refine below_set ?_ GE181.out | refine below_set ?_ GE192.out) | exact HB.out)⟩⟩
            rw [if_pos c55] at H
            have c55b0 : (t193 == 0) = true := beq_iff_eq.mpr c55
            have c55b1 : (t193 != 0) = false := bne_eq_false_iff_eq.mpr c55
            clear c55
            (first | rw [c55b0] | (simp only [i64_w, i32_w]; rw [c55b0]) | skip)
            have H' := Aside0.mk H
            clear H
            go_wp2_with (first | ((with_reducible refine gate_callee (f := 18) rfl ?_); refine goesL_ (some 76) rfl rfl Try.func18 (by kernel_rfl) rfl #[.int .i64 t191] rfl (by (try simp only [List.map_toArray, List.map_cons, List.map_nil]); first | done | rfl | (simp only [List.length_drop, List.length_take]; rfl)) ?_; (with_reducible refine (thresherlaw20_num.calls t191 t193 _ A54.out).mono ?_); rintro e w' ⟨rfl, ⟨nd, rfl⟩⟩; refine ⟨_, rfl, ?_⟩; obtain ⟨Ao56, co56, eo56⟩ := Kd.R_slice HO190.out; subst eo56))
            go_meet
            case rel => exact ⟨_, (decide ((t188.length : Int) > 3)), (by first | rfl | (simp; done) | (simp [*]; done)), H', ⟨by have := HJ1.out; have := HK2.out; have := HJ31.out; first | omega | exact Nat.le_refl _⟩, ⟨by (with_reducible repeat (first | apply Kd.R_alloc | apply Kd.R_drewN | apply Kd.R_drew)); exact Kd.R_mono (Kd.R_far (p := ⟨gb192, 3, none⟩) (Kd.R_far (p := ⟨gb192, 2, none⟩) (Kd.R_far (p := ⟨gb192, 1, none⟩) (Kd.R_far (p := ⟨gb192, 0, none⟩) (Kd.R_types HO190.out BK192.out (by decide)) (fun _ hk => hk.2) (.string t184)) (fun _ hk => hk.2) (.int .i64 t185)) (fun _ hk => hk.2) (.int .i64 t186)) (fun _ hk => hk.2) (.int .i64 t187)) (fun _ hk => trivial)⟩, ⟨by (with_reducible repeat (first | refine blk_drewN ?_ _ | refine blk_drew ?_ | refine blk_alloc ?_ _ | refine blk_far ?_ NB168_192.out _)); exact BK168.out⟩, ⟨by (with_reducible repeat (first | refine blk_drewN ?_ _ | refine blk_drew ?_ | refine blk_alloc ?_ _ | refine blk_far ?_ NB175_192.out _)); exact BK175.out⟩, ⟨by (with_reducible repeat (first | refine blk_drewN ?_ _ | refine blk_drew ?_ | refine blk_alloc ?_ _ | refine blk_far ?_ NB181_192.out _)); exact BK181.out⟩, ⟨by (with_reducible repeat (first | refine blk_drewN ?_ _ | refine blk_drew ?_ | refine blk_alloc ?_ _)); refine blk_put (cs := #[.string t184, .int .i64 t185, .int .i64 t186, .int .i64 0]) ?_ 3 _ rfl; (with_reducible repeat (first | refine blk_drewN ?_ _ | refine blk_drew ?_ | refine blk_alloc ?_ _)); refine blk_put (cs := #[.string t184, .int .i64 t185, .int .i64 0, .int .i64 0]) ?_ 2 _ rfl; (with_reducible repeat (first | refine blk_drewN ?_ _ | refine blk_drew ?_ | refine blk_alloc ?_ _)); refine blk_put (cs := #[.string t184, .int .i64 0, .int .i64 0, .int .i64 0]) ?_ 1 _ rfl; (with_reducible repeat (first | refine blk_drewN ?_ _ | refine blk_drew ?_ | refine blk_alloc ?_ _)); refine blk_put (cs := #[.string (⟨#[]⟩ : ByteArray), .int .i64 0, .int .i64 0, .int .i64 0]) ?_ 0 _ rfl; (with_reducible repeat (first | refine blk_drewN ?_ _ | refine blk_drew ?_ | refine blk_alloc ?_ _)); exact BK192.out⟩, ⟨by repeat (first | (with_reducible first | exact HB.out | apply below_alloc | apply pw_below_drewN | apply below_drew1 | refine below_set ?_ GE168.out | refine below_set ?_ GE175.out | refine below_set ?_ GE181.out | refine below_set ?_ GE192.out) | exact HB.out)⟩⟩
          case rest =>
           as_aux_lemma =>
            clear HC44
            (try clear c16); (try clear c42); (try clear c45); (try clear c46); (try clear c50); (try clear c51); (try clear c52); (try clear c55); (try clear c55b0); (try clear c55b1); (try clear hcz47_0); (try clear hcz47_1); (try clear hcz47_2); (try clear hcz47_3); (try clear hcz53_0); (try clear hcz53_1); (try clear hcz53_2); (try clear hcz53_3); (try clear hfz47_0); (try clear hfz47_1); (try clear hfz47_2); (try clear hfz47_3); (try clear hfz53_0); (try clear hfz53_1); (try clear hfz53_2); (try clear hfz53_3)
            obtain ⟨kq, x82_43, rfl, HA, HJ43, HO_10, BK168, BK175, BK181, BK192, HB⟩ := hcut
            cases kq with
            | zero => exact absurd HA.out (by simp [thresherlaw20_StreamWhole.j3])
            | succ kj43 =>
             have H := HA.out; clear HA
             simp only [thresherlaw20_StreamWhole.j3] at H
             by_cases c57 : x82_43 = true
             ·
              subst c57
              have H1 : (some false) = some r := by rw [if_pos rfl] at H; exact H
              clear H; have H := H1; clear H1
              obtain rfl := Option.some.inj H
              go_wp2
              go_ret
              exact ⟨by first | rfl | (simp [errW_none, errW_some] <;> rfl) | (simp [*, errW_none, errW_some] <;> rfl), by repeat (first | (with_reducible first | exact HB.out | apply below_alloc | apply pw_below_drewN | apply below_drew1 | refine below_set ?_ GE168.out | refine below_set ?_ GE175.out | refine below_set ?_ GE181.out | refine below_set ?_ GE192.out) | exact HB.out)⟩
             replace c57 := Bool.eq_false_iff.mpr c57
             subst c57
             have H1 : (thresherlaw20_StreamWhole.l1 kj43 t182 x7_2 x8_2 t188 x7_2 0 a0_0 a0_1 a0_2 a0_3 a0_4 a0_5 a0_6 a0_7 l0_8 t184 t185 t186 t187 x182000_2 x182001_2 x182002_2 x182003_2) = some r := by rw [if_neg (show ¬ (false = true) by decide)] at H; exact H
             clear H; have H := H1; clear H1
             have H' := Aside0.mk H
             clear H; have hnb58 := NB192_168.out; have hnc58 := NB168_192.out; have hnb59 := NB192_175.out; have hnc59 := NB175_192.out; have hnb60 := NB192_181.out; have hnc60 := NB181_192.out
             obtain ⟨hcz61_0, hcz61_1, hcz61_2, hcz61_3, hfz61_0, hfz61_1, hfz61_2, hfz61_3⟩ := blkall_4 BK192.out
             have hnb62 := NB175_168.out; have hnc62 := NB168_175.out; have hnb63 := NB175_181.out; have hnc63 := NB181_175.out
             obtain ⟨hcz64_0, hcz64_1, hcz64_2, hcz64_3, hfz64_0, hfz64_1, hfz64_2, hfz64_3⟩ := blkall_4 BK175.out
             go_wp2
             go_loopg [7, 13] kj43 (fun kq v7 v13 w' => ∃ (x7_5 : Int) (x13_5 : Int) (x176000_5 : ByteArray) (x176001_5 : Int) (x176002_5 : Int) (x176003_5 : Int) (x182000_5 : Int) (x182001_5 : Int) (x182002_5 : ByteArray) (x182003_5 : Bool), v7 = .int .i64 x7_5 ∧ v13 = .int .i64 x13_5 ∧ Aside0 (thresherlaw20_StreamWhole.l1 kq t182 x7_5 x8_2 t188 x7_2 x13_5 a0_0 a0_1 a0_2 a0_3 a0_4 a0_5 a0_6 a0_7 l0_8 x176000_5 x176001_5 x176002_5 x176003_5 x182000_5 x182001_5 x182002_5 x182003_5 = some r) ∧ Aside0 (kq ≤ kj43) ∧ Aside0 (Kd.R (Kd.int .i64) 3 w' w.heap.size (fun _ => True) v189 t188) ∧ Aside0 (w'.heap[gb168]? = some (.cells #[.string a0_0, .int .i64 a0_1, .int .i64 a0_2, .int .i64 a0_3, .int .i64 a0_4, .int .u32 a0_5, .string a0_6, .bool a0_7, (.slice A0_8 l0_8.length c0_8)] 35 (0, 0))) ∧ Aside0 (w'.heap[gb175]? = some (.cells #[.string x176000_5, .int .i64 x176001_5, .int .i64 x176002_5, .int .i64 x176003_5] 30 (0, 0))) ∧ Aside0 (w'.heap[gb181]? = some (.cells #[.int .i64 x182000_5, .int .u32 x182001_5, .string x182002_5, .bool x182003_5] 32 (0, 0))) ∧ Aside0 (w'.heap[gb192]? = some (.cells #[.string t184, .int .i64 t185, .int .i64 t186, .int .i64 t187] 30 (0, 0))) ∧ Aside0 (Below w.heap.size w w'))
             case atStart => exact ⟨(x7_2), (0), (t184), (t185), (t186), (t187), (x182000_2), (x182001_2), (x182002_2), (x182003_2), (by first | rfl | (simp; done) | (simp [*]; done)), (by first | rfl | (simp; done) | (simp [*]; done)), H', ⟨Nat.le_refl _⟩, ⟨by (with_reducible repeat (first | apply Kd.R_alloc | apply Kd.R_drewN | apply Kd.R_drew)); exact Kd.R_mono (Kd.R_far (p := ⟨gb175, 3, none⟩) (Kd.R_far (p := ⟨gb175, 2, none⟩) (Kd.R_far (p := ⟨gb175, 1, none⟩) (Kd.R_far (p := ⟨gb175, 0, none⟩) (Kd.R_types HO_10.out BK175.out (by decide)) (fun _ hk => hk.2) (.string t184)) (fun _ hk => hk.2) (.int .i64 t185)) (fun _ hk => hk.2) (.int .i64 t186)) (fun _ hk => hk.2) (.int .i64 t187)) (fun _ hk => trivial)⟩, ⟨by (with_reducible repeat (first | refine blk_drewN ?_ _ | refine blk_drew ?_ | refine blk_alloc ?_ _ | refine blk_far ?_ NB168_175.out _)); exact BK168.out⟩, ⟨by (with_reducible repeat (first | refine blk_drewN ?_ _ | refine blk_drew ?_ | refine blk_alloc ?_ _)); refine blk_put (cs := #[.string t184, .int .i64 t185, .int .i64 t186, .int .i64 x176003_2]) ?_ 3 _ rfl; (with_reducible repeat (first | refine blk_drewN ?_ _ | refine blk_drew ?_ | refine blk_alloc ?_ _)); refine blk_put (cs := #[.string t184, .int .i64 t185, .int .i64 x176002_2, .int .i64 x176003_2]) ?_ 2 _ rfl; (with_reducible repeat (first | refine blk_drewN ?_ _ | refine blk_drew ?_ | refine blk_alloc ?_ _)); refine blk_put (cs := #[.string t184, .int .i64 x176001_2, .int .i64 x176002_2, .int .i64 x176003_2]) ?_ 1 _ rfl; (with_reducible repeat (first | refine blk_drewN ?_ _ | refine blk_drew ?_ | refine blk_alloc ?_ _)); refine blk_put (cs := #[.string x176000_2, .int .i64 x176001_2, .int .i64 x176002_2, .int .i64 x176003_2]) ?_ 0 _ rfl; (with_reducible repeat (first | refine blk_drewN ?_ _ | refine blk_drew ?_ | refine blk_alloc ?_ _)); exact BK175.out⟩, ⟨by (with_reducible repeat (first | refine blk_drewN ?_ _ | refine blk_drew ?_ | refine blk_alloc ?_ _ | refine blk_far ?_ NB181_175.out _)); exact BK181.out⟩, ⟨by (with_reducible repeat (first | refine blk_drewN ?_ _ | refine blk_drew ?_ | refine blk_alloc ?_ _ | refine blk_far ?_ NB192_175.out _)); exact BK192.out⟩, ⟨by repeat (first | (with_reducible first | exact HB.out | apply below_alloc | apply pw_below_drewN | apply below_drew1 | refine below_set ?_ GE168.out | refine below_set ?_ GE175.out | refine below_set ?_ GE181.out | refine below_set ?_ GE192.out) | exact HB.out)⟩⟩
             case round =>
              as_aux_lemma =>
               clear H'
               (try clear c57); (try clear c58); (try clear c59); (try clear c60); (try clear c62); (try clear c63); (try clear hcz61_0); (try clear hcz61_1); (try clear hcz61_2); (try clear hcz61_3); (try clear hcz64_0); (try clear hcz64_1); (try clear hcz64_2); (try clear hcz64_3); (try clear hfz61_0); (try clear hfz61_1); (try clear hfz61_2); (try clear hfz61_3); (try clear hfz64_0); (try clear hfz64_1); (try clear hfz64_2); (try clear hfz64_3)
               obtain ⟨x7_5, x13_5, x176000_5, x176001_5, x176002_5, x176003_5, x182000_5, x182001_5, x182002_5, x182003_5, rfl, rfl, HA, HK5, HO_10, BK168, BK175, BK181, BK192, HB⟩ := hrel
               cases gk with
               | zero => exact absurd HA.out (by simp [thresherlaw20_StreamWhole.l1])
               | succ k5 =>
                have H := HA.out; clear HA
                simp only [thresherlaw20_StreamWhole.l1] at H
                by_cases c65 : x13_5 < (t188.length : Int)
                rotate_left
                ·
                 rw [if_neg c65] at H
                 have c65b0 : decide (x13_5 < (t188.length : Int)) = false := decide_eq_false c65
                 clear c65
                 have H' := Aside0.mk H
                 clear H
                 obtain ⟨Ao200, co200, eo200⟩ := Kd.R_slice HO_10.out
                 subst eo200
                 go_wp2
                 go_roundg k5
                 case measure => have := HJ1.out; have := HK2.out; have := HJ31.out; have := HJ43.out; have := HK5.out; omega
                 case rel => exact ⟨(x7_5), (wrap64 (x8_2 + 1)), (x176000_5), (x176001_5), (x176002_5), (x176003_5), (x182000_5), (x182001_5), (x182002_5), (x182003_5), (by first | rfl | (simp; done) | (simp [*]; done)), (by first | rfl | (simp; done) | (simp [*]; done)), H', ⟨by have := HJ1.out; have := HK2.out; have := HJ31.out; have := HJ43.out; have := HK5.out; omega⟩, ⟨by (with_reducible repeat (first | refine blk_drewN ?_ _ | refine blk_drew ?_ | refine blk_alloc ?_ _)); exact BK168.out⟩, ⟨by (with_reducible repeat (first | refine blk_drewN ?_ _ | refine blk_drew ?_ | refine blk_alloc ?_ _)); exact BK175.out⟩, ⟨by (with_reducible repeat (first | refine blk_drewN ?_ _ | refine blk_drew ?_ | refine blk_alloc ?_ _)); exact BK181.out⟩, ⟨by repeat (first | (with_reducible first | exact HB.out | apply below_alloc | apply pw_below_drewN | apply below_drew1 | refine below_set ?_ GE168.out | refine below_set ?_ GE175.out | refine below_set ?_ GE181.out | refine below_set ?_ GE192.out) | exact HB.out)⟩⟩
                rw [if_pos c65] at H
                have c65b0 : decide (x13_5 < (t188.length : Int)) = true := decide_eq_true c65
                clear c65
                by_cases c66 : 0 ≤ x13_5
                rotate_left
                ·
                 rw [if_neg c66] at H
                 exact absurd H (by simp)
                rw [if_pos c66] at H
                have c66b0 : decide (0 ≤ x13_5) = true := decide_eq_true c66
                clear c66
                by_cases c67 : (rd t188 x13_5) < x7_2
                ·
                 rw [if_pos c67] at H
                 have c67b0 : decide ((rd t188 x13_5) < x7_2) = true := decide_eq_true c67
                 clear c67
                 obtain rfl := Option.some.inj H
                 obtain ⟨Ao68, co68, eo68⟩ := Kd.R_slice HO_10.out
                 subst eo68
                 have p194 : 0 ≤ (x13_5 : Int) := of_decide_eq_true (by first | (with_reducible assumption) | assumption)
                 have q194 : x13_5 < (t188.length : Int) := of_decide_eq_true (by first | (with_reducible assumption) | assumption)
                 obtain ⟨ad194, e194, hx194_0⟩ := Kd.at_int (Kd.R_reads' HO_10.out).2.2 x13_5 p194 q194
                 cases e194
                 replace p194 := eq_true p194
                 replace q194 := eq_true q194
                 go_wp2
                 go_ret
                 exact ⟨by first | rfl | (simp [errW_none, errW_some] <;> rfl) | (simp [*, errW_none, errW_some] <;> rfl), by repeat (first | (with_reducible first | exact HB.out | apply below_alloc | apply pw_below_drewN | apply below_drew1 | refine below_set ?_ GE168.out | refine below_set ?_ GE175.out | refine below_set ?_ GE181.out | refine below_set ?_ GE192.out) | exact HB.out)⟩
                rw [if_neg c67] at H
                have c67b0 : decide ((rd t188 x13_5) < x7_2) = false := decide_eq_false c67
                clear c67
                replace H := Option.bind_eq_some_iff.mp H
                obtain ⟨⟨t196, t197⟩, A690, H⟩ := H
                replace H : ((thresherlaw20_num.f t197).bind fun t198 => (if t198 = 0 then (if x8_2 < (l0_8.length : Int) then (if 0 ≤ x8_2 then (thresherlaw20_StreamWhole.j5 k5 t182 x7_5 x8_2 t188 x7_2 x13_5 t196 ((Int.tmod ((rd_T38 l0_8 x8_2).f1) 3) == 0) a0_0 a0_1 a0_2 a0_3 a0_4 a0_5 a0_6 a0_7 l0_8 x176000_5 x176001_5 x176002_5 x176003_5 x182000_5 x182001_5 x182002_5 x182003_5) else (none)) else (thresherlaw20_StreamWhole.j5 k5 t182 x7_5 x8_2 t188 x7_2 x13_5 t196 false a0_0 a0_1 a0_2 a0_3 a0_4 a0_5 a0_6 a0_7 l0_8 x176000_5 x176001_5 x176002_5 x176003_5 x182000_5 x182001_5 x182002_5 x182003_5)) else (some false))) = some r := H
                have A69 := Aside0.mk A690; clear A690
                replace H := Option.bind_eq_some_iff.mp H
                obtain ⟨t198, A700, H⟩ := H
                replace H : (if t198 = 0 then (if x8_2 < (l0_8.length : Int) then (if 0 ≤ x8_2 then (thresherlaw20_StreamWhole.j5 k5 t182 x7_5 x8_2 t188 x7_2 x13_5 t196 ((Int.tmod ((rd_T38 l0_8 x8_2).f1) 3) == 0) a0_0 a0_1 a0_2 a0_3 a0_4 a0_5 a0_6 a0_7 l0_8 x176000_5 x176001_5 x176002_5 x176003_5 x182000_5 x182001_5 x182002_5 x182003_5) else (none)) else (thresherlaw20_StreamWhole.j5 k5 t182 x7_5 x8_2 t188 x7_2 x13_5 t196 false a0_0 a0_1 a0_2 a0_3 a0_4 a0_5 a0_6 a0_7 l0_8 x176000_5 x176001_5 x176002_5 x176003_5 x182000_5 x182001_5 x182002_5 x182003_5)) else (some false)) = some r := H
                have A70 := Aside0.mk A700; clear A700
                by_cases c71 : t198 = 0
                rotate_left
                ·
                 rw [if_neg c71] at H
                 have c71b0 : (t198 == 0) = false := beq_eq_false_iff_ne.mpr c71
                 have c71b1 : (t198 != 0) = true := bne_iff_ne.mpr c71
                 obtain rfl := Option.some.inj H
                 obtain ⟨Ao197, co197, eo197⟩ := Kd.R_slice HO_10.out
                 subst eo197
                 have p194 : 0 ≤ (x13_5 : Int) := of_decide_eq_true (by first | (with_reducible assumption) | assumption)
                 have q194 : x13_5 < (t188.length : Int) := of_decide_eq_true (by first | (with_reducible assumption) | assumption)
                 obtain ⟨ad194, e194, hx194_0⟩ := Kd.at_int (Kd.R_reads' HO_10.out).2.2 x13_5 p194 q194
                 cases e194
                 replace p194 := eq_true p194
                 replace q194 := eq_true q194
                 try go_wp2
                 have n0_ := Aside0.mk (Kd.R_drew HO_10.out)
                 have n1_ := Aside0.mk (blk_drew BK168.out)
                 have n2_ := Aside0.mk (blk_drew BK175.out)
                 have n3_ := Aside0.mk (blk_drew BK181.out)
                 have n4_ := Aside0.mk (blk_drew BK192.out)
                 have n5_ := Aside0.mk (below_drew1 HB.out)
                 clear HO_10; clear BK168; clear BK175; clear BK181; clear BK192; clear HB; have HO_10 := n0_; have BK168 := n1_; have BK175 := n2_; have BK181 := n3_; have BK192 := n4_; have HB := n5_; clear n0_ n1_ n2_ n3_ n4_ n5_
                 have p195 : 0 ≤ (x13_5 : Int) := of_decide_eq_true (by first | (with_reducible assumption) | assumption)
                 have q195 : x13_5 < (t188.length : Int) := of_decide_eq_true (by first | (with_reducible assumption) | assumption)
                 obtain ⟨ad195, e195, hx195_0⟩ := Kd.at_int (Kd.R_reads' HO_10.out).2.2 x13_5 p195 q195
                 obtain rfl : ad194 = ad195 := (by injection e195)
                 replace p195 := eq_true p195
                 replace q195 := eq_true q195
                 refine start_ (n := 11) (S := fun w' => w'.cell? ⟨gb175, 0, none⟩ = some (.string x176000_5) ∧ w'.cell? ⟨gb175, 1, none⟩ = some (.int .i64 x176001_5) ∧ w'.cell? ⟨gb175, 2, none⟩ = some (.int .i64 x176002_5) ∧ w'.cell? ⟨gb175, 3, none⟩ = some (.int .i64 x176003_5) ∧ w'.cell? (ad194.add (x13_5).toNat) = some (.int .i64 (rd t188 x13_5))) (ds := []) #[false, false, false, false, false, false, false, false, false, false, false] (by kernel_rfl) rfl rfl ⟨(blk_cell BK175.out 0).trans rfl, (blk_cell BK175.out 1).trans rfl, (blk_cell BK175.out 2).trans rfl, (blk_cell BK175.out 3).trans rfl, hx195_0⟩ (fun hHeld => ?_); refine with_tabW thresherlaw20_StreamWhole.tab22 thresherlaw20_StreamWhole.bits22 (fun HT_ HW_ => ?_)
                 generalize wr.drew = w198 at HO_10 BK168 BK175 BK181 BK192 HB hx195_0 hHeld ⊢
                 refine pure_ (i := 1) (N := some 99) (v := ?_) (a' := ?_) #[false, true, false, false, false, false, false, false, false, false, false] rfl rfl (any_of HT_.out (by kernel_rfl)) (fun _ _ _ h => h) (Or.inl ⟨by rfl, ?_⟩) ?_ ?_
                 rotate_left
                 ·
                  intro w'
                  go_simp
                  with_reducible rfl
                 rotate_left
                 ·
                  simp only [Act.put, List.setIfInBounds_toArray, List.set_cons_zero, List.set_cons_succ, i64_w, i32_w]
                  rfl
                 refine pure_ (i := 2) (N := some 100) (v := ?_) (a' := ?_) #[false, true, true, false, false, false, false, false, false, false, false] rfl rfl (any_of HT_.out (by kernel_rfl)) (fun _ _ _ h => h) (Or.inl ⟨by rfl, ?_⟩) ?_ ?_
                 rotate_left
                 ·
                  intro w'
                  go_simp
                  with_reducible rfl
                 rotate_left
                 ·
                  simp only [Act.put, List.setIfInBounds_toArray, List.set_cons_zero, List.set_cons_succ, i64_w, i32_w]
                  rfl
                 refine pure_ (i := 3) (N := some 101) (v := ?_) (a' := ?_) #[false, true, true, true, false, false, false, false, false, false, false] rfl rfl (any_of HT_.out (by kernel_rfl)) (fun _ _ _ h => h) (Or.inl ⟨by rfl, ?_⟩) ?_ ?_
                 rotate_left
                 ·
                  intro w'
                  go_simp
                  with_reducible rfl
                 rotate_left
                 ·
                  simp only [Act.put, List.setIfInBounds_toArray, List.set_cons_zero, List.set_cons_succ, i64_w, i32_w]
                  rfl
                 refine take_ (i := 0) (N := some 98) (v := ?_) (a' := ?_) #[true, true, true, true, false, false, false, false, false, false, false] rfl rfl (take_ofW HT_.out HW_.out (by kernel_rfl)) (fun _ _ _ h => h) (Or.inl ⟨by rfl, ?_⟩) hHeld ?_ ?_
                 rotate_left
                 ·
                  rintro w' ⟨s0, s1, s2, s3, s4⟩
                  go_simp
                  with_reducible rfl
                 rotate_left
                 ·
                  simp only [Act.put, List.setIfInBounds_toArray, List.set_cons_zero, List.set_cons_succ, i64_w, i32_w]
                  rfl
                 refine take_ (i := 4) (N := some 102) (v := ?_) (a' := ?_) #[true, true, true, true, true, false, false, false, false, false, false] rfl rfl (take_ofW HT_.out HW_.out (by kernel_rfl)) (fun _ _ _ h => h) (Or.inl ⟨by rfl, ?_⟩) hHeld ?_ ?_
                 rotate_left
                 ·
                  rintro w' ⟨s0, s1, s2, s3, s4⟩
                  go_simp
                  with_reducible rfl
                 rotate_left
                 ·
                  simp only [Act.put, List.setIfInBounds_toArray, List.set_cons_zero, List.set_cons_succ, i64_w, i32_w]
                  rfl
                 refine one_ (i := 5) (N := some 103) #[true, true, true, true, true, true, false, false, false, false, false] rfl rfl (one_of HT_.out (by kernel_rfl)) (by decide) (fun K hK => ?_)
                 refine goes_ Try.func22 (by kernel_rfl) rfl #[.agg #[.string x176000_5, .int .i64 x176001_5, .int .i64 x176002_5, .int .i64 x176003_5], .int .i64 (rd t188 x13_5)] (by rfl) rfl rfl (by (try simp only [List.map_toArray, List.map_cons, List.map_nil]); first | done | rfl | (simp only [List.length_drop, List.length_take]; rfl)) ?_
                 with_reducible refine (stream_Chunk.calls x176000_5 x176001_5 x176002_5 x176003_5 (rd t188 x13_5) t196 t197 _ A69.out).mono ?_
                 rintro e w199 ⟨rfl, hb⟩
                 have HS4_ := (hb.cell (World.block_lt_of_cell? _ _ (hHeld.2.2.2.2))).trans (hHeld.2.2.2.2)
                 refine ⟨_, rfl, ?_⟩
                 have n0_ := Aside0.mk (Kd.R_below (by (with_reducible repeat (first | apply Kd.R_alloc | apply Kd.R_drewN | apply Kd.R_drew)); exact HO_10.out) hb)
                 have n1_ := Aside0.mk (blk_below (g := gb168) (o := .cells #[.string a0_0, .int .i64 a0_1, .int .i64 a0_2, .int .i64 a0_3, .int .i64 a0_4, .int .u32 a0_5, .string a0_6, .bool a0_7, .slice A0_8 l0_8.length c0_8] 35 (0, 0)) (by (with_reducible repeat (first | refine blk_drewN ?_ _ | refine blk_drew ?_ | refine blk_alloc ?_ _)); exact BK168.out) hb)
                 have n2_ := Aside0.mk (blk_below (g := gb175) (o := .cells #[.string x176000_5, .int .i64 x176001_5, .int .i64 x176002_5, .int .i64 x176003_5] 30 (0, 0)) (by (with_reducible repeat (first | refine blk_drewN ?_ _ | refine blk_drew ?_ | refine blk_alloc ?_ _)); exact BK175.out) hb)
                 have n3_ := Aside0.mk (blk_below (g := gb181) (o := .cells #[.int .i64 x182000_5, .int .u32 x182001_5, .string x182002_5, .bool x182003_5] 32 (0, 0)) (by (with_reducible repeat (first | refine blk_drewN ?_ _ | refine blk_drew ?_ | refine blk_alloc ?_ _)); exact BK181.out) hb)
                 have n4_ := Aside0.mk (blk_below (g := gb192) (o := .cells #[.string t184, .int .i64 t185, .int .i64 t186, .int .i64 t187] 30 (0, 0)) (by (with_reducible repeat (first | refine blk_drewN ?_ _ | refine blk_drew ?_ | refine blk_alloc ?_ _)); exact BK192.out) hb)
                 have n5_ := Aside0.mk (below_step (by repeat (first | (with_reducible first | exact HB.out | apply below_alloc | apply pw_below_drewN | apply below_drew1 | refine below_set ?_ GE168.out | refine below_set ?_ GE175.out | refine below_set ?_ GE181.out | refine below_set ?_ GE192.out) | exact HB.out)) hb)
                 clear HO_10; clear BK168; clear BK175; clear BK181; clear BK192; clear HB; have HO_10 := n0_; have BK168 := n1_; have BK175 := n2_; have BK181 := n3_; have BK192 := n4_; have HB := n5_; clear n0_ n1_ n2_ n3_ n4_ n5_
                 (try clear hb)
                 (try clear hb2)
                 (try clear hk)
                 (try clear hi)
                 refine hK.out _ _ ⟨(blk_cell BK175.out 0).trans rfl, (blk_cell BK175.out 1).trans rfl, (blk_cell BK175.out 2).trans rfl, (blk_cell BK175.out 3).trans rfl, HS4_⟩ (fun hHeld => ?_)
                 clear hK K
                 refine norm_ (a' := ?_) ?_ ?_
                 rotate_left
                 ·
                  show Act.put _ (some 103) _ = _
                  simp only [Act.put, List.setIfInBounds_toArray, List.set_cons_zero, List.set_cons_succ, i64_w, i32_w]
                  rfl
                 refine pure_ (i := 6) (N := some 97) (v := ?_) (a' := ?_) #[true, true, true, true, true, true, true, false, false, false, false] rfl rfl (any_of HT_.out (by kernel_rfl)) (fun _ _ _ h => h) (Or.inl ⟨by rfl, ?_⟩) ?_ ?_
                 rotate_left
                 ·
                  intro w'
                  go_simp
                  with_reducible rfl
                 rotate_left
                 ·
                  simp only [Act.put, List.setIfInBounds_toArray, List.set_cons_zero, List.set_cons_succ, i64_w, i32_w]
                  rfl
                 refine pure_ (i := 7) (N := some 104) (v := ?_) (a' := ?_) #[true, true, true, true, true, true, true, true, false, false, false] rfl rfl (any_of HT_.out (by kernel_rfl)) (fun _ _ _ h => h) (Or.inl ⟨by rfl, ?_⟩) ?_ ?_
                 rotate_left
                 ·
                  intro w'
                  go_simp
                  with_reducible rfl
                 rotate_left
                 ·
                  simp only [Act.put, List.setIfInBounds_toArray, List.set_cons_zero, List.set_cons_succ, i64_w, i32_w]
                  rfl
                 refine pure_ (i := 8) (N := some 105) (v := ?_) (a' := ?_) #[true, true, true, true, true, true, true, true, true, false, false] rfl rfl (any_of HT_.out (by kernel_rfl)) (fun _ _ _ h => h) (Or.inl ⟨by rfl, ?_⟩) ?_ ?_
                 rotate_left
                 ·
                  intro w'
                  go_simp
                  with_reducible rfl
                 rotate_left
                 ·
                  simp only [Act.put, List.setIfInBounds_toArray, List.set_cons_zero, List.set_cons_succ, i64_w, i32_w]
                  rfl
                 refine pure_ (i := 9) (N := some 14) (v := ?_) (a' := ?_) #[true, true, true, true, true, true, true, true, true, true, false] rfl rfl (any_of HT_.out (by kernel_rfl)) (fun _ _ _ h => h) (Or.inl ⟨by rfl, ?_⟩) ?_ ?_
                 rotate_left
                 ·
                  intro w'
                  go_simp
                  with_reducible rfl
                 rotate_left
                 ·
                  simp only [Act.put, List.setIfInBounds_toArray, List.set_cons_zero, List.set_cons_succ, i64_w, i32_w]
                  rfl
                 refine pure_ (i := 10) (N := some 15) (v := ?_) (a' := ?_) #[true, true, true, true, true, true, true, true, true, true, true] rfl rfl (any_of HT_.out (by kernel_rfl)) (fun _ _ _ h => h) (Or.inl ⟨by rfl, ?_⟩) ?_ ?_
                 rotate_left
                 ·
                  intro w'
                  go_simp
                  with_reducible rfl
                 rotate_left
                 ·
                  simp only [Act.put, List.setIfInBounds_toArray, List.set_cons_zero, List.set_cons_succ, i64_w, i32_w]
                  rfl
                 refine done_ (done_of HT_.out (by kernel_rfl)) ?_
                 try go_wp2_with (first | ((with_reducible refine gate_callee (f := 18) rfl ?_); refine goesL_ (some 107) rfl rfl Try.func18 (by kernel_rfl) rfl #[.int .i64 t197] rfl (by (try simp only [List.map_toArray, List.map_cons, List.map_nil]); first | done | rfl | (simp only [List.length_drop, List.length_take]; rfl)) ?_; (with_reducible refine (thresherlaw20_num.calls t197 t198 _ A70.out).mono ?_); rintro e w' ⟨rfl, ⟨nd, rfl⟩⟩; refine ⟨_, rfl, ?_⟩))
                 go_ret
                 exact ⟨by first | rfl | (simp [errW_none, errW_some] <;> rfl) | (simp [*, errW_none, errW_some] <;> rfl), by repeat (first | (with_reducible first | exact HB.out | apply below_alloc | apply pw_below_drewN | apply below_drew1 | refine below_set ?_ GE168.out | refine below_set ?_ GE175.out | refine below_set ?_ GE181.out | refine below_set ?_ GE192.out) | exact HB.out)⟩
                rw [if_pos c71] at H
                have c71b0 : (t198 == 0) = true := beq_iff_eq.mpr c71
                have c71b1 : (t198 != 0) = false := bne_eq_false_iff_eq.mpr c71
                clear c71; have HC72 := Aside0.mk H; clear H
                obtain ⟨Ao73, co73, eo73⟩ := Kd.R_slice HO_10.out
                subst eo73
                have p194 : 0 ≤ (x13_5 : Int) := of_decide_eq_true (by first | (with_reducible assumption) | assumption)
                have q194 : x13_5 < (t188.length : Int) := of_decide_eq_true (by first | (with_reducible assumption) | assumption)
                obtain ⟨ad194, e194, hx194_0⟩ := Kd.at_int (Kd.R_reads' HO_10.out).2.2 x13_5 p194 q194
                cases e194
                replace p194 := eq_true p194
                replace q194 := eq_true q194
                try go_wp2
                have n0_ := Aside0.mk (Kd.R_drew HO_10.out)
                have n1_ := Aside0.mk (blk_drew BK168.out)
                have n2_ := Aside0.mk (blk_drew BK175.out)
                have n3_ := Aside0.mk (blk_drew BK181.out)
                have n4_ := Aside0.mk (blk_drew BK192.out)
                have n5_ := Aside0.mk (below_drew1 HB.out)
                clear HO_10; clear BK168; clear BK175; clear BK181; clear BK192; clear HB; have HO_10 := n0_; have BK168 := n1_; have BK175 := n2_; have BK181 := n3_; have BK192 := n4_; have HB := n5_; clear n0_ n1_ n2_ n3_ n4_ n5_
                have p195 : 0 ≤ (x13_5 : Int) := of_decide_eq_true (by first | (with_reducible assumption) | assumption)
                have q195 : x13_5 < (t188.length : Int) := of_decide_eq_true (by first | (with_reducible assumption) | assumption)
                obtain ⟨ad195, e195, hx195_0⟩ := Kd.at_int (Kd.R_reads' HO_10.out).2.2 x13_5 p195 q195
                obtain rfl : ad194 = ad195 := (by injection e195)
                replace p195 := eq_true p195
                replace q195 := eq_true q195
                refine start_ (n := 11) (S := fun w' => w'.cell? ⟨gb175, 0, none⟩ = some (.string x176000_5) ∧ w'.cell? ⟨gb175, 1, none⟩ = some (.int .i64 x176001_5) ∧ w'.cell? ⟨gb175, 2, none⟩ = some (.int .i64 x176002_5) ∧ w'.cell? ⟨gb175, 3, none⟩ = some (.int .i64 x176003_5) ∧ w'.cell? (ad194.add (x13_5).toNat) = some (.int .i64 (rd t188 x13_5))) (ds := []) #[false, false, false, false, false, false, false, false, false, false, false] (by kernel_rfl) rfl rfl ⟨(blk_cell BK175.out 0).trans rfl, (blk_cell BK175.out 1).trans rfl, (blk_cell BK175.out 2).trans rfl, (blk_cell BK175.out 3).trans rfl, hx195_0⟩ (fun hHeld => ?_); refine with_tabW thresherlaw20_StreamWhole.tab22 thresherlaw20_StreamWhole.bits22 (fun HT_ HW_ => ?_)
                generalize wr.drew = w74 at HO_10 BK168 BK175 BK181 BK192 HB hx195_0 hHeld ⊢
                refine pure_ (i := 1) (N := some 99) (v := ?_) (a' := ?_) #[false, true, false, false, false, false, false, false, false, false, false] rfl rfl (any_of HT_.out (by kernel_rfl)) (fun _ _ _ h => h) (Or.inl ⟨by rfl, ?_⟩) ?_ ?_
                rotate_left
                ·
                 intro w'
                 go_simp
                 with_reducible rfl
                rotate_left
                ·
                 simp only [Act.put, List.setIfInBounds_toArray, List.set_cons_zero, List.set_cons_succ, i64_w, i32_w]
                 rfl
                refine pure_ (i := 2) (N := some 100) (v := ?_) (a' := ?_) #[false, true, true, false, false, false, false, false, false, false, false] rfl rfl (any_of HT_.out (by kernel_rfl)) (fun _ _ _ h => h) (Or.inl ⟨by rfl, ?_⟩) ?_ ?_
                rotate_left
                ·
                 intro w'
                 go_simp
                 with_reducible rfl
                rotate_left
                ·
                 simp only [Act.put, List.setIfInBounds_toArray, List.set_cons_zero, List.set_cons_succ, i64_w, i32_w]
                 rfl
                refine pure_ (i := 3) (N := some 101) (v := ?_) (a' := ?_) #[false, true, true, true, false, false, false, false, false, false, false] rfl rfl (any_of HT_.out (by kernel_rfl)) (fun _ _ _ h => h) (Or.inl ⟨by rfl, ?_⟩) ?_ ?_
                rotate_left
                ·
                 intro w'
                 go_simp
                 with_reducible rfl
                rotate_left
                ·
                 simp only [Act.put, List.setIfInBounds_toArray, List.set_cons_zero, List.set_cons_succ, i64_w, i32_w]
                 rfl
                refine take_ (i := 0) (N := some 98) (v := ?_) (a' := ?_) #[true, true, true, true, false, false, false, false, false, false, false] rfl rfl (take_ofW HT_.out HW_.out (by kernel_rfl)) (fun _ _ _ h => h) (Or.inl ⟨by rfl, ?_⟩) hHeld ?_ ?_
                rotate_left
                ·
                 rintro w' ⟨s0, s1, s2, s3, s4⟩
                 go_simp
                 with_reducible rfl
                rotate_left
                ·
                 simp only [Act.put, List.setIfInBounds_toArray, List.set_cons_zero, List.set_cons_succ, i64_w, i32_w]
                 rfl
                refine take_ (i := 4) (N := some 102) (v := ?_) (a' := ?_) #[true, true, true, true, true, false, false, false, false, false, false] rfl rfl (take_ofW HT_.out HW_.out (by kernel_rfl)) (fun _ _ _ h => h) (Or.inl ⟨by rfl, ?_⟩) hHeld ?_ ?_
                rotate_left
                ·
                 rintro w' ⟨s0, s1, s2, s3, s4⟩
                 go_simp
                 with_reducible rfl
                rotate_left
                ·
                 simp only [Act.put, List.setIfInBounds_toArray, List.set_cons_zero, List.set_cons_succ, i64_w, i32_w]
                 rfl
                refine one_ (i := 5) (N := some 103) #[true, true, true, true, true, true, false, false, false, false, false] rfl rfl (one_of HT_.out (by kernel_rfl)) (by decide) (fun K hK => ?_)
                refine goes_ Try.func22 (by kernel_rfl) rfl #[.agg #[.string x176000_5, .int .i64 x176001_5, .int .i64 x176002_5, .int .i64 x176003_5], .int .i64 (rd t188 x13_5)] (by rfl) rfl rfl (by (try simp only [List.map_toArray, List.map_cons, List.map_nil]); first | done | rfl | (simp only [List.length_drop, List.length_take]; rfl)) ?_
                with_reducible refine (stream_Chunk.calls x176000_5 x176001_5 x176002_5 x176003_5 (rd t188 x13_5) t196 t197 _ A69.out).mono ?_
                rintro e w75 ⟨rfl, hb⟩
                have HS4_ := (hb.cell (World.block_lt_of_cell? _ _ (hHeld.2.2.2.2))).trans (hHeld.2.2.2.2)
                refine ⟨_, rfl, ?_⟩
                have n0_ := Aside0.mk (Kd.R_below (by (with_reducible repeat (first | apply Kd.R_alloc | apply Kd.R_drewN | apply Kd.R_drew)); exact HO_10.out) hb)
                have n1_ := Aside0.mk (blk_below (g := gb168) (o := .cells #[.string a0_0, .int .i64 a0_1, .int .i64 a0_2, .int .i64 a0_3, .int .i64 a0_4, .int .u32 a0_5, .string a0_6, .bool a0_7, .slice A0_8 l0_8.length c0_8] 35 (0, 0)) (by (with_reducible repeat (first | refine blk_drewN ?_ _ | refine blk_drew ?_ | refine blk_alloc ?_ _)); exact BK168.out) hb)
                have n2_ := Aside0.mk (blk_below (g := gb175) (o := .cells #[.string x176000_5, .int .i64 x176001_5, .int .i64 x176002_5, .int .i64 x176003_5] 30 (0, 0)) (by (with_reducible repeat (first | refine blk_drewN ?_ _ | refine blk_drew ?_ | refine blk_alloc ?_ _)); exact BK175.out) hb)
                have n3_ := Aside0.mk (blk_below (g := gb181) (o := .cells #[.int .i64 x182000_5, .int .u32 x182001_5, .string x182002_5, .bool x182003_5] 32 (0, 0)) (by (with_reducible repeat (first | refine blk_drewN ?_ _ | refine blk_drew ?_ | refine blk_alloc ?_ _)); exact BK181.out) hb)
                have n4_ := Aside0.mk (blk_below (g := gb192) (o := .cells #[.string t184, .int .i64 t185, .int .i64 t186, .int .i64 t187] 30 (0, 0)) (by (with_reducible repeat (first | refine blk_drewN ?_ _ | refine blk_drew ?_ | refine blk_alloc ?_ _)); exact BK192.out) hb)
                have n5_ := Aside0.mk (below_step (by repeat (first | (with_reducible first | exact HB.out | apply below_alloc | apply pw_below_drewN | apply below_drew1 | refine below_set ?_ GE168.out | refine below_set ?_ GE175.out | refine below_set ?_ GE181.out | refine below_set ?_ GE192.out) | exact HB.out)) hb)
                clear HO_10; clear BK168; clear BK175; clear BK181; clear BK192; clear HB; have HO_10 := n0_; have BK168 := n1_; have BK175 := n2_; have BK181 := n3_; have BK192 := n4_; have HB := n5_; clear n0_ n1_ n2_ n3_ n4_ n5_
                (try clear hb)
                (try clear hb2)
                (try clear hk)
                (try clear hi)
                refine hK.out _ _ ⟨(blk_cell BK175.out 0).trans rfl, (blk_cell BK175.out 1).trans rfl, (blk_cell BK175.out 2).trans rfl, (blk_cell BK175.out 3).trans rfl, HS4_⟩ (fun hHeld => ?_)
                clear hK K
                refine norm_ (a' := ?_) ?_ ?_
                rotate_left
                ·
                 show Act.put _ (some 103) _ = _
                 simp only [Act.put, List.setIfInBounds_toArray, List.set_cons_zero, List.set_cons_succ, i64_w, i32_w]
                 rfl
                refine pure_ (i := 6) (N := some 97) (v := ?_) (a' := ?_) #[true, true, true, true, true, true, true, false, false, false, false] rfl rfl (any_of HT_.out (by kernel_rfl)) (fun _ _ _ h => h) (Or.inl ⟨by rfl, ?_⟩) ?_ ?_
                rotate_left
                ·
                 intro w'
                 go_simp
                 with_reducible rfl
                rotate_left
                ·
                 simp only [Act.put, List.setIfInBounds_toArray, List.set_cons_zero, List.set_cons_succ, i64_w, i32_w]
                 rfl
                refine pure_ (i := 7) (N := some 104) (v := ?_) (a' := ?_) #[true, true, true, true, true, true, true, true, false, false, false] rfl rfl (any_of HT_.out (by kernel_rfl)) (fun _ _ _ h => h) (Or.inl ⟨by rfl, ?_⟩) ?_ ?_
                rotate_left
                ·
                 intro w'
                 go_simp
                 with_reducible rfl
                rotate_left
                ·
                 simp only [Act.put, List.setIfInBounds_toArray, List.set_cons_zero, List.set_cons_succ, i64_w, i32_w]
                 rfl
                refine pure_ (i := 8) (N := some 105) (v := ?_) (a' := ?_) #[true, true, true, true, true, true, true, true, true, false, false] rfl rfl (any_of HT_.out (by kernel_rfl)) (fun _ _ _ h => h) (Or.inl ⟨by rfl, ?_⟩) ?_ ?_
                rotate_left
                ·
                 intro w'
                 go_simp
                 with_reducible rfl
                rotate_left
                ·
                 simp only [Act.put, List.setIfInBounds_toArray, List.set_cons_zero, List.set_cons_succ, i64_w, i32_w]
                 rfl
                refine pure_ (i := 9) (N := some 14) (v := ?_) (a' := ?_) #[true, true, true, true, true, true, true, true, true, true, false] rfl rfl (any_of HT_.out (by kernel_rfl)) (fun _ _ _ h => h) (Or.inl ⟨by rfl, ?_⟩) ?_ ?_
                rotate_left
                ·
                 intro w'
                 go_simp
                 with_reducible rfl
                rotate_left
                ·
                 simp only [Act.put, List.setIfInBounds_toArray, List.set_cons_zero, List.set_cons_succ, i64_w, i32_w]
                 rfl
                refine pure_ (i := 10) (N := some 15) (v := ?_) (a' := ?_) #[true, true, true, true, true, true, true, true, true, true, true] rfl rfl (any_of HT_.out (by kernel_rfl)) (fun _ _ _ h => h) (Or.inl ⟨by rfl, ?_⟩) ?_ ?_
                rotate_left
                ·
                 intro w'
                 go_simp
                 with_reducible rfl
                rotate_left
                ·
                 simp only [Act.put, List.setIfInBounds_toArray, List.set_cons_zero, List.set_cons_succ, i64_w, i32_w]
                 rfl
                refine done_ (done_of HT_.out (by kernel_rfl)) ?_
                go_upto_region 25 with (first | ((with_reducible refine gate_callee (f := 18) rfl ?_); refine goesL_ (some 107) rfl rfl Try.func18 (by kernel_rfl) rfl #[.int .i64 t197] rfl (by (try simp only [List.map_toArray, List.map_cons, List.map_nil]); first | done | rfl | (simp only [List.length_drop, List.length_take]; rfl)) ?_; (with_reducible refine (thresherlaw20_num.calls t197 t198 _ A70.out).mono ?_); rintro e w' ⟨rfl, ⟨nd, rfl⟩⟩; refine ⟨_, rfl, ?_⟩))
                (try simp only [Act.put, List.setIfInBounds_toArray, List.set_cons_zero, List.set_cons_succ])
                go_cut [16] (fun v16 wc => ∃ (kq : Nat) (x16_71 : Bool), v16 = .bool x16_71 ∧ Aside0 (thresherlaw20_StreamWhole.j5 kq t182 x7_5 x8_2 t188 x7_2 x13_5 t196 x16_71 a0_0 a0_1 a0_2 a0_3 a0_4 a0_5 a0_6 a0_7 l0_8 x176000_5 x176001_5 x176002_5 x176003_5 x182000_5 x182001_5 x182002_5 x182003_5 = some r) ∧ Aside0 (kq ≤ k5) ∧ Aside0 (Kd.R (Kd.int .i64) 3 wc w.heap.size (fun _ => True) (.slice (some ad194) t188.length co73) t188) ∧ Aside0 (wc.heap[gb168]? = some (.cells #[.string a0_0, .int .i64 a0_1, .int .i64 a0_2, .int .i64 a0_3, .int .i64 a0_4, .int .u32 a0_5, .string a0_6, .bool a0_7, (.slice A0_8 l0_8.length c0_8)] 35 (0, 0))) ∧ Aside0 (wc.heap[gb175]? = some (.cells #[.string x176000_5, .int .i64 x176001_5, .int .i64 x176002_5, .int .i64 x176003_5] 30 (0, 0))) ∧ Aside0 (wc.heap[gb181]? = some (.cells #[.int .i64 x182000_5, .int .u32 x182001_5, .string x182002_5, .bool x182003_5] 32 (0, 0))) ∧ Aside0 (wc.heap[gb192]? = some (.cells #[.string t184, .int .i64 t185, .int .i64 t186, .int .i64 t187] 30 (0, 0))) ∧ Aside0 (Below w.heap.size w wc))
                case first =>
                 as_aux_lemma =>
                  have H := HC72.out; clear HC72
                  by_cases c76 : x8_2 < (l0_8.length : Int)
                  rotate_left
                  ·
                   rw [if_neg c76] at H
                   have c76b0 : decide (x8_2 < (l0_8.length : Int)) = false := decide_eq_false c76
                   clear c76
                   (first | rw [c76b0] | (simp only [i64_w, i32_w]; rw [c76b0]) | skip)
                   have H' := Aside0.mk H
                   clear H; have hnb82 := NB168_175.out; have hnc82 := NB175_168.out; have hnb83 := NB168_181.out; have hnc83 := NB181_168.out; have hnb84 := NB168_192.out; have hnc84 := NB192_168.out
                   obtain ⟨hcz85_0, hcz85_1, hcz85_2, hcz85_3, hcz85_4, hcz85_5, hcz85_6, hcz85_7, hcz85_8, hfz85_0, hfz85_1, hfz85_2, hfz85_3, hfz85_4, hfz85_5, hfz85_6, hfz85_7, hfz85_8⟩ := blkall_9 BK168.out
                   go_wp2
                   go_meet
                   case rel => exact ⟨_, (false), (by first | rfl | (simp; done) | (simp [*]; done)), H', ⟨by have := HJ1.out; have := HK2.out; have := HJ31.out; have := HJ43.out; have := HK5.out; first | omega | exact Nat.le_refl _⟩, ⟨by (with_reducible repeat (first | apply Kd.R_alloc | apply Kd.R_drewN | apply Kd.R_drew)); exact HO_10.out⟩, ⟨by (with_reducible repeat (first | refine blk_drewN ?_ _ | refine blk_drew ?_ | refine blk_alloc ?_ _)); exact BK168.out⟩, ⟨by (with_reducible repeat (first | refine blk_drewN ?_ _ | refine blk_drew ?_ | refine blk_alloc ?_ _)); exact BK175.out⟩, ⟨by (with_reducible repeat (first | refine blk_drewN ?_ _ | refine blk_drew ?_ | refine blk_alloc ?_ _)); exact BK181.out⟩, ⟨by (with_reducible repeat (first | refine blk_drewN ?_ _ | refine blk_drew ?_ | refine blk_alloc ?_ _)); exact BK192.out⟩, ⟨by repeat (first | (with_reducible first | exact HB.out | apply below_alloc | apply pw_below_drewN | apply below_drew1 | refine below_set ?_ GE168.out | refine below_set ?_ GE175.out | refine below_set ?_ GE181.out | refine below_set ?_ GE192.out) | exact HB.out)⟩⟩
                  rw [if_pos c76] at H
                  have c76b0 : decide (x8_2 < (l0_8.length : Int)) = true := decide_eq_true c76
                  clear c76
                  (first | rw [c76b0] | (simp only [i64_w, i32_w]; rw [c76b0]) | skip)
                  by_cases c77 : 0 ≤ x8_2
                  rotate_left
                  ·
                   rw [if_neg c77] at H
                   exact absurd H (by simp)
                  rw [if_pos c77] at H
                  have c77b0 : decide (0 ≤ x8_2) = true := decide_eq_true c77
                  clear c77
                  have H' := Aside0.mk H
                  clear H; have hnb78 := NB168_175.out; have hnc78 := NB175_168.out; have hnb79 := NB168_181.out; have hnc79 := NB181_168.out; have hnb80 := NB168_192.out; have hnc80 := NB192_168.out
                  obtain ⟨hcz81_0, hcz81_1, hcz81_2, hcz81_3, hcz81_4, hcz81_5, hcz81_6, hcz81_7, hcz81_8, hfz81_0, hfz81_1, hfz81_2, hfz81_3, hfz81_4, hfz81_5, hfz81_6, hfz81_7, hfz81_8⟩ := blkall_9 BK168.out
                  have p199 : 0 ≤ (x8_2 : Int) := of_decide_eq_true (by first | (with_reducible assumption) | assumption)
                  have q199 : x8_2 < (l0_8.length : Int) := of_decide_eq_true (by first | (with_reducible assumption) | assumption)
                  obtain ⟨ad199, e199, hx199_0, hx199_1, hx199_2, hx199_3, hx199_4, hx199_5⟩ := at_T38 HR0_8.out x8_2 p199 q199
                  cases e199
                  replace hx199_0 := (HB.out.cell (World.block_lt_of_cell? w _ hx199_0)).trans hx199_0
                  replace hx199_1 := (HB.out.cell (World.block_lt_of_cell? w _ hx199_1)).trans hx199_1
                  replace hx199_2 := (HB.out.cell (World.block_lt_of_cell? w _ hx199_2)).trans hx199_2
                  replace hx199_3 := (HB.out.cell (World.block_lt_of_cell? w _ hx199_3)).trans hx199_3
                  replace hx199_4 := (HB.out.cell (World.block_lt_of_cell? w _ hx199_4)).trans hx199_4
                  replace hx199_5 := (HB.out.cell (World.block_lt_of_cell? w _ hx199_5)).trans hx199_5
                  replace p199 := eq_true p199
                  replace q199 := eq_true q199
                  go_wp2
                  go_meet
                  case rel => exact ⟨_, (((Int.tmod ((rd_T38 l0_8 x8_2).f1) 3) == 0)), (by first | rfl | (simp; done) | (simp [*]; done)), H', ⟨by have := HJ1.out; have := HK2.out; have := HJ31.out; have := HJ43.out; have := HK5.out; first | omega | exact Nat.le_refl _⟩, ⟨by (with_reducible repeat (first | apply Kd.R_alloc | apply Kd.R_drewN | apply Kd.R_drew)); exact HO_10.out⟩, ⟨by (with_reducible repeat (first | refine blk_drewN ?_ _ | refine blk_drew ?_ | refine blk_alloc ?_ _)); exact BK168.out⟩, ⟨by (with_reducible repeat (first | refine blk_drewN ?_ _ | refine blk_drew ?_ | refine blk_alloc ?_ _)); exact BK175.out⟩, ⟨by (with_reducible repeat (first | refine blk_drewN ?_ _ | refine blk_drew ?_ | refine blk_alloc ?_ _)); exact BK181.out⟩, ⟨by (with_reducible repeat (first | refine blk_drewN ?_ _ | refine blk_drew ?_ | refine blk_alloc ?_ _)); exact BK192.out⟩, ⟨by repeat (first | (with_reducible first | exact HB.out | apply below_alloc | apply pw_below_drewN | apply below_drew1 | refine below_set ?_ GE168.out | refine below_set ?_ GE175.out | refine below_set ?_ GE181.out | refine below_set ?_ GE192.out) | exact HB.out)⟩⟩
                case rest =>
                 as_aux_lemma =>
                  clear HC72
                  (try clear p1); (try clear q1); (try clear hx1); (try clear c7); (try clear p19); (try clear q19); (try clear hx19); (try clear c22); (try clear c65); (try clear c65b0); (try clear c66); (try clear c66b0); (try clear c67); (try clear c67b0); (try clear c71); (try clear c71b0); (try clear c71b1); (try clear c76); (try clear c76b0); (try clear c77); (try clear c77b0); (try clear c78); (try clear c79); (try clear c80); (try clear c82); (try clear c83); (try clear c84); (try clear hcz81_0); (try clear hcz81_1); (try clear hcz81_2); (try clear hcz81_3); (try clear hcz81_4); (try clear hcz81_5); (try clear hcz81_6); (try clear hcz81_7); (try clear hcz81_8); (try clear hcz85_0); (try clear hcz85_1); (try clear hcz85_2); (try clear hcz85_3); (try clear hcz85_4); (try clear hcz85_5); (try clear hcz85_6); (try clear hcz85_7); (try clear hcz85_8); (try clear hfz81_0); (try clear hfz81_1); (try clear hfz81_2); (try clear hfz81_3); (try clear hfz81_4); (try clear hfz81_5); (try clear hfz81_6); (try clear hfz81_7); (try clear hfz81_8); (try clear hfz85_0); (try clear hfz85_1); (try clear hfz85_2); (try clear hfz85_3); (try clear hfz85_4); (try clear hfz85_5); (try clear hfz85_6); (try clear hfz85_7); (try clear hfz85_8); (try clear hx194_0); (try clear hx195_0); (try clear hx199_0); (try clear hx199_1); (try clear hx199_2); (try clear hx199_3); (try clear hx199_4); (try clear hx199_5); (try clear p194); (try clear p195); (try clear p199); (try clear q194); (try clear q195); (try clear q199)
                  obtain ⟨kq, x16_71, rfl, HA, HJ71, HO_10, BK168, BK175, BK181, BK192, HB⟩ := hcut
                  cases kq with
                  | zero => exact absurd HA.out (by simp [thresherlaw20_StreamWhole.j5])
                  | succ kj71 =>
                   have H := HA.out; clear HA
                   simp only [thresherlaw20_StreamWhole.j5] at H
                   have HC86 := Aside0.mk H; clear H
                   go_upto_region 27 with (fail)
                   go_cut [138] (fun v138 wc => ∃ (kq : Nat) (x138_85 : Bool), v138 = .bool x138_85 ∧ Aside0 (thresherlaw20_StreamWhole.j6 kq t182 x7_5 x8_2 t188 x7_2 x13_5 t196 x16_71 1 x138_85 a0_0 a0_1 a0_2 a0_3 a0_4 a0_5 a0_6 a0_7 l0_8 x176000_5 x176001_5 x176002_5 x176003_5 x182000_5 x182001_5 x182002_5 x182003_5 = some r) ∧ Aside0 (kq ≤ kj71) ∧ Aside0 (Kd.R (Kd.int .i64) 3 wc w.heap.size (fun _ => True) (.slice (some ad194) t188.length co73) t188) ∧ Aside0 (wc.heap[gb168]? = some (.cells #[.string a0_0, .int .i64 a0_1, .int .i64 a0_2, .int .i64 a0_3, .int .i64 a0_4, .int .u32 a0_5, .string a0_6, .bool a0_7, (.slice A0_8 l0_8.length c0_8)] 35 (0, 0))) ∧ Aside0 (wc.heap[gb175]? = some (.cells #[.string x176000_5, .int .i64 x176001_5, .int .i64 x176002_5, .int .i64 x176003_5] 30 (0, 0))) ∧ Aside0 (wc.heap[gb181]? = some (.cells #[.int .i64 x182000_5, .int .u32 x182001_5, .string x182002_5, .bool x182003_5] 32 (0, 0))) ∧ Aside0 (wc.heap[gb192]? = some (.cells #[.string t184, .int .i64 t185, .int .i64 t186, .int .i64 t187] 30 (0, 0))) ∧ Aside0 (Below w.heap.size w wc))
                   case first =>
                    as_aux_lemma =>
                     have H := HC86.out; clear HC86
                     by_cases c87 : x8_2 < (l0_8.length : Int)
                     rotate_left
                     ·
                      rw [if_neg c87] at H
                      have c87b0 : decide (x8_2 < (l0_8.length : Int)) = false := decide_eq_false c87
                      clear c87
                      (first | rw [c87b0] | (simp only [i64_w, i32_w]; rw [c87b0]) | skip)
                      have H' := Aside0.mk H
                      clear H; have hnb93 := NB168_175.out; have hnc93 := NB175_168.out; have hnb94 := NB168_181.out; have hnc94 := NB181_168.out; have hnb95 := NB168_192.out; have hnc95 := NB192_168.out
                      obtain ⟨hcz96_0, hcz96_1, hcz96_2, hcz96_3, hcz96_4, hcz96_5, hcz96_6, hcz96_7, hcz96_8, hfz96_0, hfz96_1, hfz96_2, hfz96_3, hfz96_4, hfz96_5, hfz96_6, hfz96_7, hfz96_8⟩ := blkall_9 BK168.out
                      go_wp2
                      go_meet
                      case rel => exact ⟨_, (false), (by first | rfl | (simp; done) | (simp [*]; done)), H', ⟨by have := HJ1.out; have := HK2.out; have := HJ31.out; have := HJ43.out; have := HK5.out; have := HJ71.out; first | omega | exact Nat.le_refl _⟩, ⟨by (with_reducible repeat (first | apply Kd.R_alloc | apply Kd.R_drewN | apply Kd.R_drew)); exact HO_10.out⟩, ⟨by (with_reducible repeat (first | refine blk_drewN ?_ _ | refine blk_drew ?_ | refine blk_alloc ?_ _)); exact BK168.out⟩, ⟨by (with_reducible repeat (first | refine blk_drewN ?_ _ | refine blk_drew ?_ | refine blk_alloc ?_ _)); exact BK175.out⟩, ⟨by (with_reducible repeat (first | refine blk_drewN ?_ _ | refine blk_drew ?_ | refine blk_alloc ?_ _)); exact BK181.out⟩, ⟨by (with_reducible repeat (first | refine blk_drewN ?_ _ | refine blk_drew ?_ | refine blk_alloc ?_ _)); exact BK192.out⟩, ⟨by repeat (first | (with_reducible first | exact HB.out | apply below_alloc | apply pw_below_drewN | apply below_drew1 | refine below_set ?_ GE168.out | refine below_set ?_ GE175.out | refine below_set ?_ GE181.out | refine below_set ?_ GE192.out) | exact HB.out)⟩⟩
                     rw [if_pos c87] at H
                     have c87b0 : decide (x8_2 < (l0_8.length : Int)) = true := decide_eq_true c87
                     clear c87
                     (first | rw [c87b0] | (simp only [i64_w, i32_w]; rw [c87b0]) | skip)
                     by_cases c88 : 0 ≤ x8_2
                     rotate_left
                     ·
                      rw [if_neg c88] at H
                      exact absurd H (by simp)
                     rw [if_pos c88] at H
                     have c88b0 : decide (0 ≤ x8_2) = true := decide_eq_true c88
                     clear c88
                     have H' := Aside0.mk H
                     clear H; have hnb89 := NB168_175.out; have hnc89 := NB175_168.out; have hnb90 := NB168_181.out; have hnc90 := NB181_168.out; have hnb91 := NB168_192.out; have hnc91 := NB192_168.out
                     obtain ⟨hcz92_0, hcz92_1, hcz92_2, hcz92_3, hcz92_4, hcz92_5, hcz92_6, hcz92_7, hcz92_8, hfz92_0, hfz92_1, hfz92_2, hfz92_3, hfz92_4, hfz92_5, hfz92_6, hfz92_7, hfz92_8⟩ := blkall_9 BK168.out
                     have p200 : 0 ≤ (x8_2 : Int) := of_decide_eq_true (by first | (with_reducible assumption) | assumption)
                     have q200 : x8_2 < (l0_8.length : Int) := of_decide_eq_true (by first | (with_reducible assumption) | assumption)
                     obtain ⟨ad200, e200, hx200_0, hx200_1, hx200_2, hx200_3, hx200_4, hx200_5⟩ := at_T38 HR0_8.out x8_2 p200 q200
                     cases e200
                     replace hx200_0 := (HB.out.cell (World.block_lt_of_cell? w _ hx200_0)).trans hx200_0
                     replace hx200_1 := (HB.out.cell (World.block_lt_of_cell? w _ hx200_1)).trans hx200_1
                     replace hx200_2 := (HB.out.cell (World.block_lt_of_cell? w _ hx200_2)).trans hx200_2
                     replace hx200_3 := (HB.out.cell (World.block_lt_of_cell? w _ hx200_3)).trans hx200_3
                     replace hx200_4 := (HB.out.cell (World.block_lt_of_cell? w _ hx200_4)).trans hx200_4
                     replace hx200_5 := (HB.out.cell (World.block_lt_of_cell? w _ hx200_5)).trans hx200_5
                     replace p200 := eq_true p200
                     replace q200 := eq_true q200
                     go_wp2
                     go_meet
                     case rel => exact ⟨_, (((Int.tmod ((rd_T38 l0_8 x8_2).f1) 3) == 1)), (by first | rfl | (simp; done) | (simp [*]; done)), H', ⟨by have := HJ1.out; have := HK2.out; have := HJ31.out; have := HJ43.out; have := HK5.out; have := HJ71.out; first | omega | exact Nat.le_refl _⟩, ⟨by (with_reducible repeat (first | apply Kd.R_alloc | apply Kd.R_drewN | apply Kd.R_drew)); exact HO_10.out⟩, ⟨by (with_reducible repeat (first | refine blk_drewN ?_ _ | refine blk_drew ?_ | refine blk_alloc ?_ _)); exact BK168.out⟩, ⟨by (with_reducible repeat (first | refine blk_drewN ?_ _ | refine blk_drew ?_ | refine blk_alloc ?_ _)); exact BK175.out⟩, ⟨by (with_reducible repeat (first | refine blk_drewN ?_ _ | refine blk_drew ?_ | refine blk_alloc ?_ _)); exact BK181.out⟩, ⟨by (with_reducible repeat (first | refine blk_drewN ?_ _ | refine blk_drew ?_ | refine blk_alloc ?_ _)); exact BK192.out⟩, ⟨by repeat (first | (with_reducible first | exact HB.out | apply below_alloc | apply pw_below_drewN | apply below_drew1 | refine below_set ?_ GE168.out | refine below_set ?_ GE175.out | refine below_set ?_ GE181.out | refine below_set ?_ GE192.out) | exact HB.out)⟩⟩
                   case rest =>
                    as_aux_lemma =>
                     clear HC86
                     (try clear q2); (try clear hx2); (try clear c9); (try clear p20); (try clear q20); (try clear hx20); (try clear c87); (try clear c87b0); (try clear c88); (try clear c88b0); (try clear c89); (try clear c90); (try clear c91); (try clear c93); (try clear c94); (try clear c95); (try clear hcz92_0); (try clear hcz92_1); (try clear hcz92_2); (try clear hcz92_3); (try clear hcz92_4); (try clear hcz92_5); (try clear hcz92_6); (try clear hcz92_7); (try clear hcz92_8); (try clear hcz96_0); (try clear hcz96_1); (try clear hcz96_2); (try clear hcz96_3); (try clear hcz96_4); (try clear hcz96_5); (try clear hcz96_6); (try clear hcz96_7); (try clear hcz96_8); (try clear hfz92_0); (try clear hfz92_1); (try clear hfz92_2); (try clear hfz92_3); (try clear hfz92_4); (try clear hfz92_5); (try clear hfz92_6); (try clear hfz92_7); (try clear hfz92_8); (try clear hfz96_0); (try clear hfz96_1); (try clear hfz96_2); (try clear hfz96_3); (try clear hfz96_4); (try clear hfz96_5); (try clear hfz96_6); (try clear hfz96_7); (try clear hfz96_8); (try clear hx200_0); (try clear hx200_1); (try clear hx200_2); (try clear hx200_3); (try clear hx200_4); (try clear hx200_5); (try clear p200); (try clear q200)
                     obtain ⟨kq, x138_85, rfl, HA, HJ85, HO_10, BK168, BK175, BK181, BK192, HB⟩ := hcut
                     cases kq with
                     | zero => exact absurd HA.out (by simp [thresherlaw20_StreamWhole.j6])
                     | succ kj85 =>
                      have H := HA.out; clear HA
                      simp only [thresherlaw20_StreamWhole.j6] at H
                      have HC97 := Aside0.mk H; clear H
                      go_upto_if 138 with (fail)
                      go_cut [17] (fun v17 wc => ∃ (kq : Nat) (x17_96 : Int), v17 = .int .i64 x17_96 ∧ Aside0 (thresherlaw20_StreamWhole.j7 kq t182 x7_5 x8_2 t188 x7_2 x13_5 t196 x16_71 x17_96 a0_0 a0_1 a0_2 a0_3 a0_4 a0_5 a0_6 a0_7 l0_8 x176000_5 x176001_5 x176002_5 x176003_5 x182000_5 x182001_5 x182002_5 x182003_5 = some r) ∧ Aside0 (kq ≤ kj85) ∧ Aside0 (Kd.R (Kd.int .i64) 3 wc w.heap.size (fun _ => True) (.slice (some ad194) t188.length co73) t188) ∧ Aside0 (wc.heap[gb168]? = some (.cells #[.string a0_0, .int .i64 a0_1, .int .i64 a0_2, .int .i64 a0_3, .int .i64 a0_4, .int .u32 a0_5, .string a0_6, .bool a0_7, (.slice A0_8 l0_8.length c0_8)] 35 (0, 0))) ∧ Aside0 (wc.heap[gb175]? = some (.cells #[.string x176000_5, .int .i64 x176001_5, .int .i64 x176002_5, .int .i64 x176003_5] 30 (0, 0))) ∧ Aside0 (wc.heap[gb181]? = some (.cells #[.int .i64 x182000_5, .int .u32 x182001_5, .string x182002_5, .bool x182003_5] 32 (0, 0))) ∧ Aside0 (wc.heap[gb192]? = some (.cells #[.string t184, .int .i64 t185, .int .i64 t186, .int .i64 t187] 30 (0, 0))) ∧ Aside0 (Below w.heap.size w wc))
                      case first =>
                       as_aux_lemma =>
                        have H := HC97.out; clear HC97
                        by_cases c98 : x138_85 = true
                        ·
                         subst c98
                         have H1 : (thresherlaw20_StreamWhole.j7 kj85 t182 x7_5 x8_2 t188 x7_2 x13_5 t196 x16_71 2 a0_0 a0_1 a0_2 a0_3 a0_4 a0_5 a0_6 a0_7 l0_8 x176000_5 x176001_5 x176002_5 x176003_5 x182000_5 x182001_5 x182002_5 x182003_5) = some r := by rw [if_pos rfl] at H; exact H
                         clear H; have H := H1; clear H1
                         have H' := Aside0.mk H
                         clear H
                         go_wp2
                         go_meet
                         case rel => exact ⟨_, (2), (by first | rfl | (simp; done) | (simp [*]; done)), H', ⟨by have := HJ1.out; have := HK2.out; have := HJ31.out; have := HJ43.out; have := HK5.out; have := HJ71.out; have := HJ85.out; first | omega | exact Nat.le_refl _⟩, ⟨by (with_reducible repeat (first | apply Kd.R_alloc | apply Kd.R_drewN | apply Kd.R_drew)); exact HO_10.out⟩, ⟨by (with_reducible repeat (first | refine blk_drewN ?_ _ | refine blk_drew ?_ | refine blk_alloc ?_ _)); exact BK168.out⟩, ⟨by (with_reducible repeat (first | refine blk_drewN ?_ _ | refine blk_drew ?_ | refine blk_alloc ?_ _)); exact BK175.out⟩, ⟨by (with_reducible repeat (first | refine blk_drewN ?_ _ | refine blk_drew ?_ | refine blk_alloc ?_ _)); exact BK181.out⟩, ⟨by (with_reducible repeat (first | refine blk_drewN ?_ _ | refine blk_drew ?_ | refine blk_alloc ?_ _)); exact BK192.out⟩, ⟨by repeat (first | (with_reducible first | exact HB.out | apply below_alloc | apply pw_below_drewN | apply below_drew1 | refine below_set ?_ GE168.out | refine below_set ?_ GE175.out | refine below_set ?_ GE181.out | refine below_set ?_ GE192.out) | exact HB.out)⟩⟩
                        replace c98 := Bool.eq_false_iff.mpr c98
                        subst c98
                        have H1 : (thresherlaw20_StreamWhole.j7 kj85 t182 x7_5 x8_2 t188 x7_2 x13_5 t196 x16_71 1 a0_0 a0_1 a0_2 a0_3 a0_4 a0_5 a0_6 a0_7 l0_8 x176000_5 x176001_5 x176002_5 x176003_5 x182000_5 x182001_5 x182002_5 x182003_5) = some r := by rw [if_neg (show ¬ (false = true) by decide)] at H; exact H
                        clear H; have H := H1; clear H1
                        have H' := Aside0.mk H
                        clear H
                        go_wp2
                        go_meet
                        case rel => exact ⟨_, (1), (by first | rfl | (simp; done) | (simp [*]; done)), H', ⟨by have := HJ1.out; have := HK2.out; have := HJ31.out; have := HJ43.out; have := HK5.out; have := HJ71.out; have := HJ85.out; first | omega | exact Nat.le_refl _⟩, ⟨by (with_reducible repeat (first | apply Kd.R_alloc | apply Kd.R_drewN | apply Kd.R_drew)); exact HO_10.out⟩, ⟨by (with_reducible repeat (first | refine blk_drewN ?_ _ | refine blk_drew ?_ | refine blk_alloc ?_ _)); exact BK168.out⟩, ⟨by (with_reducible repeat (first | refine blk_drewN ?_ _ | refine blk_drew ?_ | refine blk_alloc ?_ _)); exact BK175.out⟩, ⟨by (with_reducible repeat (first | refine blk_drewN ?_ _ | refine blk_drew ?_ | refine blk_alloc ?_ _)); exact BK181.out⟩, ⟨by (with_reducible repeat (first | refine blk_drewN ?_ _ | refine blk_drew ?_ | refine blk_alloc ?_ _)); exact BK192.out⟩, ⟨by repeat (first | (with_reducible first | exact HB.out | apply below_alloc | apply pw_below_drewN | apply below_drew1 | refine below_set ?_ GE168.out | refine below_set ?_ GE175.out | refine below_set ?_ GE181.out | refine below_set ?_ GE192.out) | exact HB.out)⟩⟩
                      case rest =>
                       as_aux_lemma =>
                        clear HC97
                        (try clear c98)
                        obtain ⟨kq, x17_96, rfl, HA, HJ96, HO_10, BK168, BK175, BK181, BK192, HB⟩ := hcut
                        cases kq with
                        | zero => exact absurd HA.out (by simp [thresherlaw20_StreamWhole.j7])
                        | succ kj96 =>
                         have H := HA.out; clear HA
                         simp only [thresherlaw20_StreamWhole.j7] at H
                         have H' := Aside0.mk H
                         clear H
                         go_wp2
                         go_loopg [7, 18] kj96 (fun kq v7 v18 w' => ∃ (x7_9 : Int) (x18_9 : Int) (x176000_9 : ByteArray) (x176001_9 : Int) (x176002_9 : Int) (x176003_9 : Int) (x182000_9 : Int) (x182001_9 : Int) (x182002_9 : ByteArray) (x182003_9 : Bool), v7 = .int .i64 x7_9 ∧ v18 = .int .i64 x18_9 ∧ Aside0 (thresherlaw20_StreamWhole.l2 kq t182 x7_9 x8_2 t188 x7_2 x13_5 t196 x16_71 x17_96 x18_9 a0_0 a0_1 a0_2 a0_3 a0_4 a0_5 a0_6 a0_7 l0_8 x176000_9 x176001_9 x176002_9 x176003_9 x182000_9 x182001_9 x182002_9 x182003_9 = some r) ∧ Aside0 (kq ≤ kj96) ∧ Aside0 (Kd.R (Kd.int .i64) 3 w' w.heap.size (fun _ => True) (.slice (some ad194) t188.length co73) t188) ∧ Aside0 (w'.heap[gb168]? = some (.cells #[.string a0_0, .int .i64 a0_1, .int .i64 a0_2, .int .i64 a0_3, .int .i64 a0_4, .int .u32 a0_5, .string a0_6, .bool a0_7, (.slice A0_8 l0_8.length c0_8)] 35 (0, 0))) ∧ Aside0 (w'.heap[gb175]? = some (.cells #[.string x176000_9, .int .i64 x176001_9, .int .i64 x176002_9, .int .i64 x176003_9] 30 (0, 0))) ∧ Aside0 (w'.heap[gb181]? = some (.cells #[.int .i64 x182000_9, .int .u32 x182001_9, .string x182002_9, .bool x182003_9] 32 (0, 0))) ∧ Aside0 (w'.heap[gb192]? = some (.cells #[.string t184, .int .i64 t185, .int .i64 t186, .int .i64 t187] 30 (0, 0))) ∧ Aside0 (Below w.heap.size w w'))
                         case atStart => exact ⟨(x7_5), (0), (x176000_5), (x176001_5), (x176002_5), (x176003_5), (x182000_5), (x182001_5), (x182002_5), (x182003_5), (by first | rfl | (simp; done) | (simp [*]; done)), (by first | rfl | (simp; done) | (simp [*]; done)), H', ⟨Nat.le_refl _⟩, ⟨by (with_reducible repeat (first | apply Kd.R_alloc | apply Kd.R_drewN | apply Kd.R_drew)); exact HO_10.out⟩, ⟨by (with_reducible repeat (first | refine blk_drewN ?_ _ | refine blk_drew ?_ | refine blk_alloc ?_ _)); exact BK168.out⟩, ⟨by (with_reducible repeat (first | refine blk_drewN ?_ _ | refine blk_drew ?_ | refine blk_alloc ?_ _)); exact BK175.out⟩, ⟨by (with_reducible repeat (first | refine blk_drewN ?_ _ | refine blk_drew ?_ | refine blk_alloc ?_ _)); exact BK181.out⟩, ⟨by (with_reducible repeat (first | refine blk_drewN ?_ _ | refine blk_drew ?_ | refine blk_alloc ?_ _)); exact BK192.out⟩, ⟨by repeat (first | (with_reducible first | exact HB.out | apply below_alloc | apply pw_below_drewN | apply below_drew1 | refine below_set ?_ GE168.out | refine below_set ?_ GE175.out | refine below_set ?_ GE181.out | refine below_set ?_ GE192.out) | exact HB.out)⟩⟩
                         case round =>
                          as_aux_lemma =>
                           clear H'
                           obtain ⟨x7_9, x18_9, x176000_9, x176001_9, x176002_9, x176003_9, x182000_9, x182001_9, x182002_9, x182003_9, rfl, rfl, HA, HK9, HO_10, BK168, BK175, BK181, BK192, HB⟩ := hrel
                           cases gk with
                           | zero => exact absurd HA.out (by simp [thresherlaw20_StreamWhole.l2])
                           | succ k9 =>
                            have H := HA.out; clear HA
                            simp only [thresherlaw20_StreamWhole.l2] at H
                            have HC99 := Aside0.mk H; clear H
                            go_upto_region 30 with (fail)
                            go_cut [145] (fun v145 wc => ∃ (kq : Nat) (x145_98 : Bool), v145 = .bool x145_98 ∧ Aside0 (thresherlaw20_StreamWhole.j9 kq t182 x7_9 x8_2 t188 x7_2 x13_5 t196 x16_71 x17_96 x18_9 x145_98 a0_0 a0_1 a0_2 a0_3 a0_4 a0_5 a0_6 a0_7 l0_8 x176000_9 x176001_9 x176002_9 x176003_9 x182000_9 x182001_9 x182002_9 x182003_9 = some r) ∧ Aside0 (kq ≤ k9) ∧ Aside0 (Kd.R (Kd.int .i64) 3 wc w.heap.size (fun _ => True) (.slice (some ad194) t188.length co73) t188) ∧ Aside0 (wc.heap[gb168]? = some (.cells #[.string a0_0, .int .i64 a0_1, .int .i64 a0_2, .int .i64 a0_3, .int .i64 a0_4, .int .u32 a0_5, .string a0_6, .bool a0_7, (.slice A0_8 l0_8.length c0_8)] 35 (0, 0))) ∧ Aside0 (wc.heap[gb175]? = some (.cells #[.string x176000_9, .int .i64 x176001_9, .int .i64 x176002_9, .int .i64 x176003_9] 30 (0, 0))) ∧ Aside0 (wc.heap[gb181]? = some (.cells #[.int .i64 x182000_9, .int .u32 x182001_9, .string x182002_9, .bool x182003_9] 32 (0, 0))) ∧ Aside0 (wc.heap[gb192]? = some (.cells #[.string t184, .int .i64 t185, .int .i64 t186, .int .i64 t187] 30 (0, 0))) ∧ Aside0 (Below w.heap.size w wc))
                            case first =>
                             as_aux_lemma =>
                              have H := HC99.out; clear HC99
                              by_cases c100 : x18_9 < x17_96
                              ·
                               rw [if_pos c100] at H
                               have c100b0 : decide (x18_9 < x17_96) = true := decide_eq_true c100
                               clear c100
                               (first | rw [c100b0] | (simp only [i64_w, i32_w]; rw [c100b0]) | skip)
                               have H' := Aside0.mk H
                               clear H
                               go_wp2
                               go_meet
                               case rel => exact ⟨_, (!x16_71), (by first | rfl | (simp; done) | (simp [*]; done)), H', ⟨by have := HJ1.out; have := HK2.out; have := HJ31.out; have := HJ43.out; have := HK5.out; have := HJ71.out; have := HJ85.out; have := HJ96.out; have := HK9.out; first | omega | exact Nat.le_refl _⟩, ⟨by (with_reducible repeat (first | apply Kd.R_alloc | apply Kd.R_drewN | apply Kd.R_drew)); exact HO_10.out⟩, ⟨by (with_reducible repeat (first | refine blk_drewN ?_ _ | refine blk_drew ?_ | refine blk_alloc ?_ _)); exact BK168.out⟩, ⟨by (with_reducible repeat (first | refine blk_drewN ?_ _ | refine blk_drew ?_ | refine blk_alloc ?_ _)); exact BK175.out⟩, ⟨by (with_reducible repeat (first | refine blk_drewN ?_ _ | refine blk_drew ?_ | refine blk_alloc ?_ _)); exact BK181.out⟩, ⟨by (with_reducible repeat (first | refine blk_drewN ?_ _ | refine blk_drew ?_ | refine blk_alloc ?_ _)); exact BK192.out⟩, ⟨by repeat (first | (with_reducible first | exact HB.out | apply below_alloc | apply pw_below_drewN | apply below_drew1 | refine below_set ?_ GE168.out | refine below_set ?_ GE175.out | refine below_set ?_ GE181.out | refine below_set ?_ GE192.out) | exact HB.out)⟩⟩
                              rw [if_neg c100] at H
                              have c100b0 : decide (x18_9 < x17_96) = false := decide_eq_false c100
                              clear c100
                              (first | rw [c100b0] | (simp only [i64_w, i32_w]; rw [c100b0]) | skip)
                              have H' := Aside0.mk H
                              clear H
                              go_wp2
                              go_meet
                              case rel => exact ⟨_, (false), (by first | rfl | (simp; done) | (simp [*]; done)), H', ⟨by have := HJ1.out; have := HK2.out; have := HJ31.out; have := HJ43.out; have := HK5.out; have := HJ71.out; have := HJ85.out; have := HJ96.out; have := HK9.out; first | omega | exact Nat.le_refl _⟩, ⟨by (with_reducible repeat (first | apply Kd.R_alloc | apply Kd.R_drewN | apply Kd.R_drew)); exact HO_10.out⟩, ⟨by (with_reducible repeat (first | refine blk_drewN ?_ _ | refine blk_drew ?_ | refine blk_alloc ?_ _)); exact BK168.out⟩, ⟨by (with_reducible repeat (first | refine blk_drewN ?_ _ | refine blk_drew ?_ | refine blk_alloc ?_ _)); exact BK175.out⟩, ⟨by (with_reducible repeat (first | refine blk_drewN ?_ _ | refine blk_drew ?_ | refine blk_alloc ?_ _)); exact BK181.out⟩, ⟨by (with_reducible repeat (first | refine blk_drewN ?_ _ | refine blk_drew ?_ | refine blk_alloc ?_ _)); exact BK192.out⟩, ⟨by repeat (first | (with_reducible first | exact HB.out | apply below_alloc | apply pw_below_drewN | apply below_drew1 | refine below_set ?_ GE168.out | refine below_set ?_ GE175.out | refine below_set ?_ GE181.out | refine below_set ?_ GE192.out) | exact HB.out)⟩⟩
                            case rest =>
                             as_aux_lemma =>
                              clear HC99
                              (try clear c10); (try clear c100); (try clear c100b0)
                              obtain ⟨kq, x145_98, rfl, HA, HJ98, HO_10, BK168, BK175, BK181, BK192, HB⟩ := hcut
                              cases kq with
                              | zero => exact absurd HA.out (by simp [thresherlaw20_StreamWhole.j9])
                              | succ kj98 =>
                               have H := HA.out; clear HA
                               simp only [thresherlaw20_StreamWhole.j9] at H
                               by_cases c101 : x145_98 = true
                               rotate_left
                               ·
                                replace c101 := Bool.eq_false_iff.mpr c101
                                subst c101
                                have H1 : (thresherlaw20_StreamWhole.l1 kj98 t182 x7_9 x8_2 t188 x7_2 (wrap64 (x13_5 + 1)) a0_0 a0_1 a0_2 a0_3 a0_4 a0_5 a0_6 a0_7 l0_8 x176000_9 x176001_9 x176002_9 x176003_9 x182000_9 x182001_9 x182002_9 x182003_9) = some r := by rw [if_neg (show ¬ (false = true) by decide)] at H; exact H
                                clear H; have H := H1; clear H1
                                have H' := Aside0.mk H
                                clear H
                                go_wp2
                                go_roundg kj98
                                case measure => have := HJ1.out; have := HK2.out; have := HJ31.out; have := HJ43.out; have := HK5.out; have := HJ71.out; have := HJ85.out; have := HJ96.out; have := HK9.out; have := HJ98.out; omega
                                case rel => exact ⟨(x7_9), (wrap64 (x13_5 + 1)), (x176000_9), (x176001_9), (x176002_9), (x176003_9), (x182000_9), (x182001_9), (x182002_9), (x182003_9), (by first | rfl | (simp; done) | (simp [*]; done)), (by first | rfl | (simp; done) | (simp [*]; done)), H', ⟨by have := HJ1.out; have := HK2.out; have := HJ31.out; have := HJ43.out; have := HK5.out; have := HJ71.out; have := HJ85.out; have := HJ96.out; have := HK9.out; have := HJ98.out; omega⟩, ⟨by (with_reducible repeat (first | apply Kd.R_alloc | apply Kd.R_drewN | apply Kd.R_drew)); exact HO_10.out⟩, ⟨by (with_reducible repeat (first | refine blk_drewN ?_ _ | refine blk_drew ?_ | refine blk_alloc ?_ _)); exact BK168.out⟩, ⟨by (with_reducible repeat (first | refine blk_drewN ?_ _ | refine blk_drew ?_ | refine blk_alloc ?_ _)); exact BK175.out⟩, ⟨by (with_reducible repeat (first | refine blk_drewN ?_ _ | refine blk_drew ?_ | refine blk_alloc ?_ _)); exact BK181.out⟩, ⟨by (with_reducible repeat (first | refine blk_drewN ?_ _ | refine blk_drew ?_ | refine blk_alloc ?_ _)); exact BK192.out⟩, ⟨by repeat (first | (with_reducible first | exact HB.out | apply below_alloc | apply pw_below_drewN | apply below_drew1 | refine below_set ?_ GE168.out | refine below_set ?_ GE175.out | refine below_set ?_ GE181.out | refine below_set ?_ GE192.out) | exact HB.out)⟩⟩
                               subst c101
                               have H1 : (if 0 ≤ x13_5 then (if x13_5 < (t188.length : Int) then ((stream_Take.f kj98 x182000_9 x182001_9 x182002_9 x182003_9 (rd t188 x13_5) (a0_0.size : Int) t182 t196).bind fun bt202 => ((thresherlaw20_num.f bt202.2.2.2.2.2.2).bind fun t210 => (if t210 = 0 then (if bt202.2.2.2.2.1 > (a0_0.size : Int) then (thresherlaw20_StreamWhole.j10 kj98 t182 x7_9 x8_2 t188 x7_2 x13_5 t196 x16_71 x17_96 x18_9 bt202.2.2.2.2.1 true a0_0 a0_1 a0_2 a0_3 a0_4 a0_5 a0_6 a0_7 l0_8 x176000_9 x176001_9 x176002_9 x176003_9 bt202.1 bt202.2.1 bt202.2.2.1 bt202.2.2.2.1) else (if bt202.2.2.2.1 = true then (thresherlaw20_StreamWhole.j10 kj98 t182 x7_9 x8_2 t188 x7_2 x13_5 t196 x16_71 x17_96 x18_9 bt202.2.2.2.2.1 (bt202.2.2.1.toList != a0_0.toList) a0_0 a0_1 a0_2 a0_3 a0_4 a0_5 a0_6 a0_7 l0_8 x176000_9 x176001_9 x176002_9 x176003_9 bt202.1 bt202.2.1 bt202.2.2.1 bt202.2.2.2.1) else (thresherlaw20_StreamWhole.j10 kj98 t182 x7_9 x8_2 t188 x7_2 x13_5 t196 x16_71 x17_96 x18_9 bt202.2.2.2.2.1 false a0_0 a0_1 a0_2 a0_3 a0_4 a0_5 a0_6 a0_7 l0_8 x176000_9 x176001_9 x176002_9 x176003_9 bt202.1 bt202.2.1 bt202.2.2.1 bt202.2.2.2.1))) else (thresherlaw20_StreamWhole.j10 kj98 t182 x7_9 x8_2 t188 x7_2 x13_5 t196 x16_71 x17_96 x18_9 bt202.2.2.2.2.1 true a0_0 a0_1 a0_2 a0_3 a0_4 a0_5 a0_6 a0_7 l0_8 x176000_9 x176001_9 x176002_9 x176003_9 bt202.1 bt202.2.1 bt202.2.2.1 bt202.2.2.2.1)))) else (none)) else (none)) = some r := by rw [if_pos rfl] at H; exact H
                               clear H; have H := H1; clear H1
                               by_cases c102 : 0 ≤ x13_5
                               rotate_left
                               ·
                                rw [if_neg c102] at H
                                exact absurd H (by simp)
                               rw [if_pos c102] at H
                               have c102b0 : decide (0 ≤ x13_5) = true := decide_eq_true c102
                               clear c102
                               by_cases c103 : x13_5 < (t188.length : Int)
                               rotate_left
                               ·
                                rw [if_neg c103] at H
                                exact absurd H (by simp)
                               rw [if_pos c103] at H
                               have c103b0 : decide (x13_5 < (t188.length : Int)) = true := decide_eq_true c103
                               clear c103
                               replace H := Option.bind_eq_some_iff.mp H
                               obtain ⟨⟨t202, t203, t204, t205, t206, t207, t208⟩, A1040, H⟩ := H
                               replace H : ((thresherlaw20_num.f t208).bind fun t210 => (if t210 = 0 then (if t206 > (a0_0.size : Int) then (thresherlaw20_StreamWhole.j10 kj98 t182 x7_9 x8_2 t188 x7_2 x13_5 t196 x16_71 x17_96 x18_9 t206 true a0_0 a0_1 a0_2 a0_3 a0_4 a0_5 a0_6 a0_7 l0_8 x176000_9 x176001_9 x176002_9 x176003_9 t202 t203 t204 t205) else (if t205 = true then (thresherlaw20_StreamWhole.j10 kj98 t182 x7_9 x8_2 t188 x7_2 x13_5 t196 x16_71 x17_96 x18_9 t206 (t204.toList != a0_0.toList) a0_0 a0_1 a0_2 a0_3 a0_4 a0_5 a0_6 a0_7 l0_8 x176000_9 x176001_9 x176002_9 x176003_9 t202 t203 t204 t205) else (thresherlaw20_StreamWhole.j10 kj98 t182 x7_9 x8_2 t188 x7_2 x13_5 t196 x16_71 x17_96 x18_9 t206 false a0_0 a0_1 a0_2 a0_3 a0_4 a0_5 a0_6 a0_7 l0_8 x176000_9 x176001_9 x176002_9 x176003_9 t202 t203 t204 t205))) else (thresherlaw20_StreamWhole.j10 kj98 t182 x7_9 x8_2 t188 x7_2 x13_5 t196 x16_71 x17_96 x18_9 t206 true a0_0 a0_1 a0_2 a0_3 a0_4 a0_5 a0_6 a0_7 l0_8 x176000_9 x176001_9 x176002_9 x176003_9 t202 t203 t204 t205))) = some r := H
                               have A104 := Aside0.mk A1040; clear A1040; have HC105 := Aside0.mk H; clear H
                               try go_wp2
                               have n0_ := Aside0.mk (Kd.R_drew HO_10.out)
                               have n1_ := Aside0.mk (blk_drew BK168.out)
                               have n2_ := Aside0.mk (blk_drew BK175.out)
                               have n3_ := Aside0.mk (blk_drew BK181.out)
                               have n4_ := Aside0.mk (blk_drew BK192.out)
                               have n5_ := Aside0.mk (below_drew1 HB.out)
                               clear HO_10; clear BK168; clear BK175; clear BK181; clear BK192; clear HB; have HO_10 := n0_; have BK168 := n1_; have BK175 := n2_; have BK181 := n3_; have BK192 := n4_; have HB := n5_; clear n0_ n1_ n2_ n3_ n4_ n5_
                               have p201 : 0 ≤ (x13_5 : Int) := of_decide_eq_true (by first | (with_reducible assumption) | assumption)
                               have q201 : x13_5 < (t188.length : Int) := of_decide_eq_true (by first | (with_reducible assumption) | assumption)
                               obtain ⟨ad201, e201, hx201_0⟩ := Kd.at_int (Kd.R_reads' HO_10.out).2.2 x13_5 p201 q201
                               obtain rfl : ad194 = ad201 := (by injection e201)
                               replace p201 := eq_true p201
                               replace q201 := eq_true q201
                               refine start_ (n := 22) (S := fun w' => w'.cell? ⟨gb181, 0, none⟩ = some (.int .i64 x182000_9) ∧ w'.cell? ⟨gb181, 1, none⟩ = some (.int .u32 x182001_9) ∧ w'.cell? ⟨gb181, 2, none⟩ = some (.string x182002_9) ∧ w'.cell? ⟨gb181, 3, none⟩ = some (.bool x182003_9) ∧ w'.cell? ⟨gb168, 0, none⟩ = some (.string a0_0) ∧ w'.cell? ⟨gb168, 1, none⟩ = some (.int .i64 a0_1) ∧ w'.cell? ⟨gb168, 2, none⟩ = some (.int .i64 a0_2) ∧ w'.cell? ⟨gb168, 3, none⟩ = some (.int .i64 a0_3) ∧ w'.cell? ⟨gb168, 4, none⟩ = some (.int .i64 a0_4) ∧ w'.cell? ⟨gb168, 5, none⟩ = some (.int .u32 a0_5) ∧ w'.cell? ⟨gb168, 6, none⟩ = some (.string a0_6) ∧ w'.cell? ⟨gb168, 7, none⟩ = some (.bool a0_7) ∧ w'.cell? ⟨gb168, 8, none⟩ = some (.slice A0_8 l0_8.length c0_8) ∧ w'.cell? (ad194.add (x13_5).toNat) = some (.int .i64 (rd t188 x13_5))) (ds := []) #[false, false, false, false, false, false, false, false, false, false, false, false, false, false, false, false, false, false, false, false, false, false] (by kernel_rfl) rfl rfl ⟨(blk_cell BK181.out 0).trans rfl, (blk_cell BK181.out 1).trans rfl, (blk_cell BK181.out 2).trans rfl, (blk_cell BK181.out 3).trans rfl, (blk_cell BK168.out 0).trans rfl, (blk_cell BK168.out 1).trans rfl, (blk_cell BK168.out 2).trans rfl, (blk_cell BK168.out 3).trans rfl, (blk_cell BK168.out 4).trans rfl, (blk_cell BK168.out 5).trans rfl, (blk_cell BK168.out 6).trans rfl, (blk_cell BK168.out 7).trans rfl, (blk_cell BK168.out 8).trans rfl, hx201_0⟩ (fun hHeld => ?_); refine with_tabW thresherlaw20_StreamWhole.tab32 thresherlaw20_StreamWhole.bits32 (fun HT_ HW_ => ?_)
                               generalize wc.drew = w106 at HO_10 BK168 BK175 BK181 BK192 HB hx201_0 hHeld ⊢
                               refine pure_ (i := 1) (N := some 150) (v := ?_) (a' := ?_) #[false, true, false, false, false, false, false, false, false, false, false, false, false, false, false, false, false, false, false, false, false, false] rfl rfl (any_of HT_.out (by kernel_rfl)) (fun _ _ _ h => h) (Or.inl ⟨by rfl, ?_⟩) ?_ ?_
                               rotate_left
                               ·
                                intro w'
                                go_simp
                                with_reducible rfl
                               rotate_left
                               ·
                                simp only [Act.put, List.setIfInBounds_toArray, List.set_cons_zero, List.set_cons_succ, i64_w, i32_w]
                                rfl
                               refine pure_ (i := 2) (N := some 151) (v := ?_) (a' := ?_) #[false, true, true, false, false, false, false, false, false, false, false, false, false, false, false, false, false, false, false, false, false, false] rfl rfl (any_of HT_.out (by kernel_rfl)) (fun _ _ _ h => h) (Or.inl ⟨by rfl, ?_⟩) ?_ ?_
                               rotate_left
                               ·
                                intro w'
                                go_simp
                                with_reducible rfl
                               rotate_left
                               ·
                                simp only [Act.put, List.setIfInBounds_toArray, List.set_cons_zero, List.set_cons_succ, i64_w, i32_w]
                                rfl
                               refine pure_ (i := 3) (N := some 152) (v := ?_) (a' := ?_) #[false, true, true, true, false, false, false, false, false, false, false, false, false, false, false, false, false, false, false, false, false, false] rfl rfl (any_of HT_.out (by kernel_rfl)) (fun _ _ _ h => h) (Or.inl ⟨by rfl, ?_⟩) ?_ ?_
                               rotate_left
                               ·
                                intro w'
                                go_simp
                                with_reducible rfl
                               rotate_left
                               ·
                                simp only [Act.put, List.setIfInBounds_toArray, List.set_cons_zero, List.set_cons_succ, i64_w, i32_w]
                                rfl
                               refine pure_ (i := 5) (N := some 154) (v := ?_) (a' := ?_) #[false, true, true, true, false, true, false, false, false, false, false, false, false, false, false, false, false, false, false, false, false, false] rfl rfl (any_of HT_.out (by kernel_rfl)) (fun _ _ _ h => h) (Or.inl ⟨by rfl, ?_⟩) ?_ ?_
                               rotate_left
                               ·
                                intro w'
                                go_simp
                                with_reducible rfl
                               rotate_left
                               ·
                                simp only [Act.put, List.setIfInBounds_toArray, List.set_cons_zero, List.set_cons_succ, i64_w, i32_w]
                                rfl
                               refine pure_ (i := 6) (N := some 155) (v := ?_) (a' := ?_) #[false, true, true, true, false, true, true, false, false, false, false, false, false, false, false, false, false, false, false, false, false, false] rfl rfl (any_of HT_.out (by kernel_rfl)) (fun _ _ _ h => h) (Or.inl ⟨by rfl, ?_⟩) ?_ ?_
                               rotate_left
                               ·
                                intro w'
                                go_simp
                                with_reducible rfl
                               rotate_left
                               ·
                                simp only [Act.put, List.setIfInBounds_toArray, List.set_cons_zero, List.set_cons_succ, i64_w, i32_w]
                                rfl
                               refine pure_ (i := 9) (N := some 158) (v := ?_) (a' := ?_) #[false, true, true, true, false, true, true, false, false, true, false, false, false, false, false, false, false, false, false, false, false, false] rfl rfl (any_of HT_.out (by kernel_rfl)) (fun _ _ _ h => h) (Or.inl ⟨by rfl, ?_⟩) ?_ ?_
                               rotate_left
                               ·
                                intro w'
                                go_simp
                                with_reducible rfl
                               rotate_left
                               ·
                                simp only [Act.put, List.setIfInBounds_toArray, List.set_cons_zero, List.set_cons_succ, i64_w, i32_w]
                                rfl
                               refine pure_ (i := 10) (N := some 159) (v := ?_) (a' := ?_) #[false, true, true, true, false, true, true, false, false, true, true, false, false, false, false, false, false, false, false, false, false, false] rfl rfl (any_of HT_.out (by kernel_rfl)) (fun _ _ _ h => h) (Or.inl ⟨by rfl, ?_⟩) ?_ ?_
                               rotate_left
                               ·
                                intro w'
                                go_simp
                                with_reducible rfl
                               rotate_left
                               ·
                                simp only [Act.put, List.setIfInBounds_toArray, List.set_cons_zero, List.set_cons_succ, i64_w, i32_w]
                                rfl
                               refine take_ (i := 0) (N := some 149) (v := ?_) (a' := ?_) #[true, true, true, true, false, true, true, false, false, true, true, false, false, false, false, false, false, false, false, false, false, false] rfl rfl (take_ofW HT_.out HW_.out (by kernel_rfl)) (fun _ _ _ h => h) (Or.inl ⟨by rfl, ?_⟩) hHeld ?_ ?_
                               rotate_left
                               ·
                                rintro w' ⟨s0, s1, s2, s3, s4, s5, s6, s7, s8, s9, s10, s11, s12, s13⟩
                                go_simp
                                with_reducible rfl
                               rotate_left
                               ·
                                simp only [Act.put, List.setIfInBounds_toArray, List.set_cons_zero, List.set_cons_succ, i64_w, i32_w]
                                rfl
                               refine take_ (i := 4) (N := some 153) (v := ?_) (a' := ?_) #[true, true, true, true, true, true, true, false, false, true, true, false, false, false, false, false, false, false, false, false, false, false] rfl rfl (take_ofW HT_.out HW_.out (by kernel_rfl)) (fun _ _ _ h => h) (Or.inl ⟨by rfl, ?_⟩) hHeld ?_ ?_
                               rotate_left
                               ·
                                rintro w' ⟨s0, s1, s2, s3, s4, s5, s6, s7, s8, s9, s10, s11, s12, s13⟩
                                go_simp
                                with_reducible rfl
                               rotate_left
                               ·
                                simp only [Act.put, List.setIfInBounds_toArray, List.set_cons_zero, List.set_cons_succ, i64_w, i32_w]
                                rfl
                               refine take_ (i := 7) (N := some 156) (v := ?_) (a' := ?_) #[true, true, true, true, true, true, true, true, false, true, true, false, false, false, false, false, false, false, false, false, false, false] rfl rfl (take_ofW HT_.out HW_.out (by kernel_rfl)) (fun _ _ _ h => h) (Or.inl ⟨by rfl, ?_⟩) hHeld ?_ ?_
                               rotate_left
                               ·
                                rintro w' ⟨s0, s1, s2, s3, s4, s5, s6, s7, s8, s9, s10, s11, s12, s13⟩
                                go_simp
                                with_reducible rfl
                               rotate_left
                               ·
                                simp only [Act.put, List.setIfInBounds_toArray, List.set_cons_zero, List.set_cons_succ, i64_w, i32_w]
                                rfl
                               refine pure_ (i := 8) (N := some 157) (v := ?_) (a' := ?_) #[true, true, true, true, true, true, true, true, true, true, true, false, false, false, false, false, false, false, false, false, false, false] rfl rfl (any_of HT_.out (by kernel_rfl)) (fun _ _ _ h => h) (Or.inl ⟨by rfl, ?_⟩) ?_ ?_
                               rotate_left
                               ·
                                intro w'
                                go_simp
                                with_reducible rfl
                               rotate_left
                               ·
                                simp only [Act.put, List.setIfInBounds_toArray, List.set_cons_zero, List.set_cons_succ, i64_w, i32_w]
                                rfl
                               refine join_ (σ := Nat) 4 #[true, true, true, true, true, true, true, true, true, true, true, true, true, true, true, true, true, true, false, false, false, false] (fun s_ => [(160, .tuple #[.agg #[.int .i64 t202, .int .u32 t203, .string t204, .bool t205], .int .i64 t206, .bool t207, .int .i64 t208]), (19, .pointer (some ⟨s_, 0, none⟩)), (148, .tuple #[.agg #[.int .i64 t202, .int .u32 t203, .string t204, .bool t205], .int .i64 t206, .bool t207, .int .i64 t208]), (161, .agg #[.int .i64 t202, .int .u32 t203, .string t204, .bool t205]), (162, .int .i64 t206), (163, .bool t207), (164, .int .i64 t208)]) (fun s_ w' => (w'.cell? ⟨gb181, 0, none⟩ = some (.int .i64 x182000_9) ∧ w'.cell? ⟨gb181, 1, none⟩ = some (.int .u32 x182001_9) ∧ w'.cell? ⟨gb181, 2, none⟩ = some (.string x182002_9) ∧ w'.cell? ⟨gb181, 3, none⟩ = some (.bool x182003_9) ∧ w'.cell? ⟨gb168, 0, none⟩ = some (.string a0_0) ∧ w'.cell? ⟨gb168, 1, none⟩ = some (.int .i64 a0_1) ∧ w'.cell? ⟨gb168, 2, none⟩ = some (.int .i64 a0_2) ∧ w'.cell? ⟨gb168, 3, none⟩ = some (.int .i64 a0_3) ∧ w'.cell? ⟨gb168, 4, none⟩ = some (.int .i64 a0_4) ∧ w'.cell? ⟨gb168, 5, none⟩ = some (.int .u32 a0_5) ∧ w'.cell? ⟨gb168, 6, none⟩ = some (.string a0_6) ∧ w'.cell? ⟨gb168, 7, none⟩ = some (.bool a0_7) ∧ w'.cell? ⟨gb168, 8, none⟩ = some (.slice A0_8 l0_8.length c0_8) ∧ w'.cell? (ad194.add (x13_5).toNat) = some (.int .i64 (rd t188 x13_5))) ∧ (Kd.R (Kd.int .i64) 3 w' w.heap.size (fun _ => True) (.slice (some ad194) t188.length co73) t188) ∧ (w'.heap[gb168]? = some (.cells #[.string a0_0, .int .i64 a0_1, .int .i64 a0_2, .int .i64 a0_3, .int .i64 a0_4, .int .u32 a0_5, .string a0_6, .bool a0_7, .slice A0_8 l0_8.length c0_8] 35 (0, 0))) ∧ (w'.heap[gb175]? = some (.cells #[.string x176000_9, .int .i64 x176001_9, .int .i64 x176002_9, .int .i64 x176003_9] 30 (0, 0))) ∧ (w'.heap[gb181]? = some (.cells #[.int .i64 x182000_9, .int .u32 x182001_9, .string x182002_9, .bool x182003_9] 32 (0, 0))) ∧ (w'.heap[gb192]? = some (.cells #[.string t184, .int .i64 t185, .int .i64 t186, .int .i64 t187] 30 (0, 0))) ∧ (w'.heap[s_]? = some (.cells #[.int .i64 0, .int .u32 0, .string (⟨#[]⟩ : ByteArray), .bool false] 32 (0, 0))) ∧ (w.heap.size ≤ s_) ∧ (w.heap.size ≤ s_) ∧ (gb168 ≠ s_) ∧ (s_ ≠ gb168) ∧ (gb175 ≠ s_) ∧ (s_ ≠ gb175) ∧ (gb181 ≠ s_) ∧ (s_ ≠ gb181) ∧ (gb192 ≠ s_) ∧ (s_ ≠ gb192) ∧ (Below w.heap.size w w')) ?_ ?_
                               rotate_left
                               ·
                                intro hCont
                                refine two_ (i := 11) (j := 17) (Ni := some 160) (Nj := some 19) #[true, true, true, true, true, true, true, true, true, true, true, true, false, false, false, false, false, false, false, false, false, false] #[true, true, true, true, true, true, true, true, true, true, true, false, false, false, false, false, false, true, false, false, false, false] rfl rfl rfl rfl (two_of HT_.out (by kernel_rfl)) (by decide) (by decide) (fun K hK => ?_) (fun K hK => ?_)
                                ·
                                 skip
                                 refine goes_ Try.func25 (by kernel_rfl) rfl #[.agg #[.int .i64 x182000_9, .int .u32 x182001_9, .string x182002_9, .bool x182003_9], .int .i64 (rd t188 x13_5), .int .i64 (a0_0.size : Int), .int .u32 t182, .string t196] (by rfl) rfl rfl (by (try simp only [List.map_toArray, List.map_cons, List.map_nil]); first | done | rfl | (simp only [List.length_drop, List.length_take]; rfl)) ?_
                                 with_reducible refine (stream_Take.calls kj98 x182000_9 x182001_9 x182002_9 x182003_9 (rd t188 x13_5) (a0_0.size : Int) t182 t196 t202 t203 t204 t205 t206 t207 t208 _ A104.out).mono ?_
                                 rintro e w107 ⟨rfl, hb⟩
                                 have HS13_ := (hb.cell (World.block_lt_of_cell? _ _ (hHeld.2.2.2.2.2.2.2.2.2.2.2.2.2))).trans (hHeld.2.2.2.2.2.2.2.2.2.2.2.2.2)
                                 refine ⟨_, rfl, ?_⟩
                                 have n0_ := Aside0.mk (Kd.R_below (by (with_reducible repeat (first | apply Kd.R_alloc | apply Kd.R_drewN | apply Kd.R_drew)); exact HO_10.out) hb)
                                 have n1_ := Aside0.mk (blk_below (g := gb168) (o := .cells #[.string a0_0, .int .i64 a0_1, .int .i64 a0_2, .int .i64 a0_3, .int .i64 a0_4, .int .u32 a0_5, .string a0_6, .bool a0_7, .slice A0_8 l0_8.length c0_8] 35 (0, 0)) (by (with_reducible repeat (first | refine blk_drewN ?_ _ | refine blk_drew ?_ | refine blk_alloc ?_ _)); exact BK168.out) hb)
                                 have n2_ := Aside0.mk (blk_below (g := gb175) (o := .cells #[.string x176000_9, .int .i64 x176001_9, .int .i64 x176002_9, .int .i64 x176003_9] 30 (0, 0)) (by (with_reducible repeat (first | refine blk_drewN ?_ _ | refine blk_drew ?_ | refine blk_alloc ?_ _)); exact BK175.out) hb)
                                 have n3_ := Aside0.mk (blk_below (g := gb181) (o := .cells #[.int .i64 x182000_9, .int .u32 x182001_9, .string x182002_9, .bool x182003_9] 32 (0, 0)) (by (with_reducible repeat (first | refine blk_drewN ?_ _ | refine blk_drew ?_ | refine blk_alloc ?_ _)); exact BK181.out) hb)
                                 have n4_ := Aside0.mk (blk_below (g := gb192) (o := .cells #[.string t184, .int .i64 t185, .int .i64 t186, .int .i64 t187] 30 (0, 0)) (by (with_reducible repeat (first | refine blk_drewN ?_ _ | refine blk_drew ?_ | refine blk_alloc ?_ _)); exact BK192.out) hb)
                                 have n5_ := Aside0.mk (below_step (by repeat (first | (with_reducible first | exact HB.out | apply below_alloc | apply pw_below_drewN | apply below_drew1 | refine below_set ?_ GE168.out | refine below_set ?_ GE175.out | refine below_set ?_ GE181.out | refine below_set ?_ GE192.out) | exact HB.out)) hb)
                                 clear HO_10; clear BK168; clear BK175; clear BK181; clear BK192; clear HB; have HO_10 := n0_; have BK168 := n1_; have BK175 := n2_; have BK181 := n3_; have BK192 := n4_; have HB := n5_; clear n0_ n1_ n2_ n3_ n4_ n5_
                                 (try clear hb)
                                 (try clear hb2)
                                 (try clear hk)
                                 (try clear hi)
                                 refine hK.out _ _ ⟨(blk_cell BK181.out 0).trans rfl, (blk_cell BK181.out 1).trans rfl, (blk_cell BK181.out 2).trans rfl, (blk_cell BK181.out 3).trans rfl, (blk_cell BK168.out 0).trans rfl, (blk_cell BK168.out 1).trans rfl, (blk_cell BK168.out 2).trans rfl, (blk_cell BK168.out 3).trans rfl, (blk_cell BK168.out 4).trans rfl, (blk_cell BK168.out 5).trans rfl, (blk_cell BK168.out 6).trans rfl, (blk_cell BK168.out 7).trans rfl, (blk_cell BK168.out 8).trans rfl, HS13_⟩ (fun hHeld => ?_)
                                 clear hK K
                                 refine norm_ (a' := ?_) ?_ ?_
                                 rotate_left
                                 ·
                                  show Act.put _ (some 160) _ = _
                                  simp only [Act.put, List.setIfInBounds_toArray, List.set_cons_zero, List.set_cons_succ, i64_w, i32_w]
                                  rfl
                                 refine pure_ (i := 12) (N := some 148) (v := ?_) (a' := ?_) #[true, true, true, true, true, true, true, true, true, true, true, true, true, false, false, false, false, false, false, false, false, false] rfl rfl (any_of HT_.out (by kernel_rfl)) (fun _ _ _ h => h) (Or.inl ⟨by rfl, ?_⟩) ?_ ?_
                                 rotate_left
                                 ·
                                  intro w'
                                  go_simp
                                  with_reducible rfl
                                 rotate_left
                                 ·
                                  simp only [Act.put, List.setIfInBounds_toArray, List.set_cons_zero, List.set_cons_succ, i64_w, i32_w]
                                  rfl
                                 refine pure_ (i := 13) (N := some 161) (v := ?_) (a' := ?_) #[true, true, true, true, true, true, true, true, true, true, true, true, true, true, false, false, false, false, false, false, false, false] rfl rfl (any_of HT_.out (by kernel_rfl)) (fun _ _ _ h => h) (Or.inl ⟨by rfl, ?_⟩) ?_ ?_
                                 rotate_left
                                 ·
                                  intro w'
                                  go_simp
                                  with_reducible rfl
                                 rotate_left
                                 ·
                                  simp only [Act.put, List.setIfInBounds_toArray, List.set_cons_zero, List.set_cons_succ, i64_w, i32_w]
                                  rfl
                                 refine pure_ (i := 14) (N := some 162) (v := ?_) (a' := ?_) #[true, true, true, true, true, true, true, true, true, true, true, true, true, true, true, false, false, false, false, false, false, false] rfl rfl (any_of HT_.out (by kernel_rfl)) (fun _ _ _ h => h) (Or.inl ⟨by rfl, ?_⟩) ?_ ?_
                                 rotate_left
                                 ·
                                  intro w'
                                  go_simp
                                  with_reducible rfl
                                 rotate_left
                                 ·
                                  simp only [Act.put, List.setIfInBounds_toArray, List.set_cons_zero, List.set_cons_succ, i64_w, i32_w]
                                  rfl
                                 refine pure_ (i := 15) (N := some 163) (v := ?_) (a' := ?_) #[true, true, true, true, true, true, true, true, true, true, true, true, true, true, true, true, false, false, false, false, false, false] rfl rfl (any_of HT_.out (by kernel_rfl)) (fun _ _ _ h => h) (Or.inl ⟨by rfl, ?_⟩) ?_ ?_
                                 rotate_left
                                 ·
                                  intro w'
                                  go_simp
                                  with_reducible rfl
                                 rotate_left
                                 ·
                                  simp only [Act.put, List.setIfInBounds_toArray, List.set_cons_zero, List.set_cons_succ, i64_w, i32_w]
                                  rfl
                                 refine pure_ (i := 16) (N := some 164) (v := ?_) (a' := ?_) #[true, true, true, true, true, true, true, true, true, true, true, true, true, true, true, true, true, false, false, false, false, false] rfl rfl (any_of HT_.out (by kernel_rfl)) (fun _ _ _ h => h) (Or.inl ⟨by rfl, ?_⟩) ?_ ?_
                                 rotate_left
                                 ·
                                  intro w'
                                  go_simp
                                  with_reducible rfl
                                 rotate_left
                                 ·
                                  simp only [Act.put, List.setIfInBounds_toArray, List.set_cons_zero, List.set_cons_succ, i64_w, i32_w]
                                  rfl
                                 refine one_ (i := 17) (N := some 19) #[true, true, true, true, true, true, true, true, true, true, true, true, true, true, true, true, true, true, false, false, false, false] rfl rfl (one_of HT_.out (by kernel_rfl)) (by decide) (fun K hK => ?_)
                                 refine box_step ?hg (N := 19) ?hd (cs := #[.int .i64 0, .int .u32 0, .string (⟨#[]⟩ : ByteArray), .bool false]) (t := 32) ?hr ?_; (case hd => rfl); (case hg => rfl); (case hr => first | (go_simp; done) | (go_simp; rfl))
                                 intro gb209 hg w108 hbox hb
                                 have HS13_ := (hb.cell (World.block_lt_of_cell? _ _ (hHeld.2.2.2.2.2.2.2.2.2.2.2.2.2))).trans (hHeld.2.2.2.2.2.2.2.2.2.2.2.2.2)
                                 have n0_ := Aside0.mk (Kd.R_below (by (with_reducible repeat (first | apply Kd.R_alloc | apply Kd.R_drewN | apply Kd.R_drew)); exact HO_10.out) hb)
                                 have n1_ := Aside0.mk (blk_below (g := gb168) (o := .cells #[.string a0_0, .int .i64 a0_1, .int .i64 a0_2, .int .i64 a0_3, .int .i64 a0_4, .int .u32 a0_5, .string a0_6, .bool a0_7, .slice A0_8 l0_8.length c0_8] 35 (0, 0)) (by (with_reducible repeat (first | refine blk_drewN ?_ _ | refine blk_drew ?_ | refine blk_alloc ?_ _)); exact BK168.out) hb)
                                 have n2_ := Aside0.mk (blk_below (g := gb175) (o := .cells #[.string x176000_9, .int .i64 x176001_9, .int .i64 x176002_9, .int .i64 x176003_9] 30 (0, 0)) (by (with_reducible repeat (first | refine blk_drewN ?_ _ | refine blk_drew ?_ | refine blk_alloc ?_ _)); exact BK175.out) hb)
                                 have n3_ := Aside0.mk (blk_below (g := gb181) (o := .cells #[.int .i64 x182000_9, .int .u32 x182001_9, .string x182002_9, .bool x182003_9] 32 (0, 0)) (by (with_reducible repeat (first | refine blk_drewN ?_ _ | refine blk_drew ?_ | refine blk_alloc ?_ _)); exact BK181.out) hb)
                                 have n4_ := Aside0.mk (blk_below (g := gb192) (o := .cells #[.string t184, .int .i64 t185, .int .i64 t186, .int .i64 t187] 30 (0, 0)) (by (with_reducible repeat (first | refine blk_drewN ?_ _ | refine blk_drew ?_ | refine blk_alloc ?_ _)); exact BK192.out) hb)
                                 have n5_ := Aside0.mk (below_step (by repeat (first | (with_reducible first | exact HB.out | apply below_alloc | apply pw_below_drewN | apply below_drew1 | refine below_set ?_ GE168.out | refine below_set ?_ GE175.out | refine below_set ?_ GE181.out | refine below_set ?_ GE192.out) | exact HB.out)) hb)
                                 have n6_ := Aside0.mk (hbox)
                                 have n7_ := Aside0.mk ((by rw [hg]; exact (below_size (by repeat (first | (with_reducible first | exact HB.out | apply below_alloc | apply pw_below_drewN | apply below_drew1 | refine below_set ?_ GE168.out | refine below_set ?_ GE175.out | refine below_set ?_ GE181.out | refine below_set ?_ GE192.out) | exact HB.out))) : w.heap.size ≤ gb209))
                                 have n8_ := Aside0.mk ((by rw [hg]; exact (below_size (by repeat (first | (with_reducible first | exact HB.out | apply below_alloc | apply pw_below_drewN | apply below_drew1 | refine below_set ?_ GE168.out | refine below_set ?_ GE175.out | refine below_set ?_ GE181.out | refine below_set ?_ GE192.out) | exact HB.out))) : w.heap.size ≤ gb209))
                                 have n9_ := Aside0.mk ((by rw [hg]; exact Nat.ne_of_lt (blk_lt (g := gb168) (o := .cells #[.string a0_0, .int .i64 a0_1, .int .i64 a0_2, .int .i64 a0_3, .int .i64 a0_4, .int .u32 a0_5, .string a0_6, .bool a0_7, .slice A0_8 l0_8.length c0_8] 35 (0, 0)) (by (with_reducible repeat (first | refine blk_drewN ?_ _ | refine blk_drew ?_ | refine blk_alloc ?_ _)); exact BK168.out)) : gb168 ≠ gb209))
                                 have n10_ := Aside0.mk ((by rw [hg]; exact Nat.ne_of_gt (blk_lt (g := gb168) (o := .cells #[.string a0_0, .int .i64 a0_1, .int .i64 a0_2, .int .i64 a0_3, .int .i64 a0_4, .int .u32 a0_5, .string a0_6, .bool a0_7, .slice A0_8 l0_8.length c0_8] 35 (0, 0)) (by (with_reducible repeat (first | refine blk_drewN ?_ _ | refine blk_drew ?_ | refine blk_alloc ?_ _)); exact BK168.out)) : gb209 ≠ gb168))
                                 have n11_ := Aside0.mk ((by rw [hg]; exact Nat.ne_of_lt (blk_lt (g := gb175) (o := .cells #[.string x176000_9, .int .i64 x176001_9, .int .i64 x176002_9, .int .i64 x176003_9] 30 (0, 0)) (by (with_reducible repeat (first | refine blk_drewN ?_ _ | refine blk_drew ?_ | refine blk_alloc ?_ _)); exact BK175.out)) : gb175 ≠ gb209))
                                 have n12_ := Aside0.mk ((by rw [hg]; exact Nat.ne_of_gt (blk_lt (g := gb175) (o := .cells #[.string x176000_9, .int .i64 x176001_9, .int .i64 x176002_9, .int .i64 x176003_9] 30 (0, 0)) (by (with_reducible repeat (first | refine blk_drewN ?_ _ | refine blk_drew ?_ | refine blk_alloc ?_ _)); exact BK175.out)) : gb209 ≠ gb175))
                                 have n13_ := Aside0.mk ((by rw [hg]; exact Nat.ne_of_lt (blk_lt (g := gb181) (o := .cells #[.int .i64 x182000_9, .int .u32 x182001_9, .string x182002_9, .bool x182003_9] 32 (0, 0)) (by (with_reducible repeat (first | refine blk_drewN ?_ _ | refine blk_drew ?_ | refine blk_alloc ?_ _)); exact BK181.out)) : gb181 ≠ gb209))
                                 have n14_ := Aside0.mk ((by rw [hg]; exact Nat.ne_of_gt (blk_lt (g := gb181) (o := .cells #[.int .i64 x182000_9, .int .u32 x182001_9, .string x182002_9, .bool x182003_9] 32 (0, 0)) (by (with_reducible repeat (first | refine blk_drewN ?_ _ | refine blk_drew ?_ | refine blk_alloc ?_ _)); exact BK181.out)) : gb209 ≠ gb181))
                                 have n15_ := Aside0.mk ((by rw [hg]; exact Nat.ne_of_lt (blk_lt (g := gb192) (o := .cells #[.string t184, .int .i64 t185, .int .i64 t186, .int .i64 t187] 30 (0, 0)) (by (with_reducible repeat (first | refine blk_drewN ?_ _ | refine blk_drew ?_ | refine blk_alloc ?_ _)); exact BK192.out)) : gb192 ≠ gb209))
                                 have n16_ := Aside0.mk ((by rw [hg]; exact Nat.ne_of_gt (blk_lt (g := gb192) (o := .cells #[.string t184, .int .i64 t185, .int .i64 t186, .int .i64 t187] 30 (0, 0)) (by (with_reducible repeat (first | refine blk_drewN ?_ _ | refine blk_drew ?_ | refine blk_alloc ?_ _)); exact BK192.out)) : gb209 ≠ gb192))
                                 clear HO_10; clear BK168; clear BK175; clear BK181; clear BK192; clear HB; have HO_10 := n0_; have BK168 := n1_; have BK175 := n2_; have BK181 := n3_; have BK192 := n4_; have HB := n5_; have BK209 := n6_; have GW209 := n7_; have GE209 := n8_; have NB168_209 := n9_; have NB209_168 := n10_; have NB175_209 := n11_; have NB209_175 := n12_; have NB181_209 := n13_; have NB209_181 := n14_; have NB192_209 := n15_; have NB209_192 := n16_; clear n0_ n1_ n2_ n3_ n4_ n5_ n6_ n7_ n8_ n9_ n10_ n11_ n12_ n13_ n14_ n15_ n16_; clear hb hbox hg
                                 refine hK.out _ _ ⟨(blk_cell BK181.out 0).trans rfl, (blk_cell BK181.out 1).trans rfl, (blk_cell BK181.out 2).trans rfl, (blk_cell BK181.out 3).trans rfl, (blk_cell BK168.out 0).trans rfl, (blk_cell BK168.out 1).trans rfl, (blk_cell BK168.out 2).trans rfl, (blk_cell BK168.out 3).trans rfl, (blk_cell BK168.out 4).trans rfl, (blk_cell BK168.out 5).trans rfl, (blk_cell BK168.out 6).trans rfl, (blk_cell BK168.out 7).trans rfl, (blk_cell BK168.out 8).trans rfl, HS13_⟩ (fun hHeld => ?_)
                                 clear hK K
                                 refine norm_ (a' := ?_) ?_ ?_
                                 rotate_left
                                 ·
                                  show Act.put _ (some 19) _ = _
                                  simp only [Act.put, List.setIfInBounds_toArray, List.set_cons_zero, List.set_cons_succ, i64_w, i32_w]
                                  rfl
                                 exact norm_ (by simp only [putAll, Act.put, List.setIfInBounds_toArray, List.set_cons_zero, List.set_cons_succ]) (hCont (gb209) _ ⟨hHeld, (by (with_reducible repeat (first | apply Kd.R_alloc | apply Kd.R_drewN | apply Kd.R_drew)); exact HO_10.out), (by (with_reducible repeat (first | refine blk_drewN ?_ _ | refine blk_drew ?_ | refine blk_alloc ?_ _)); exact BK168.out), (by (with_reducible repeat (first | refine blk_drewN ?_ _ | refine blk_drew ?_ | refine blk_alloc ?_ _)); exact BK175.out), (by (with_reducible repeat (first | refine blk_drewN ?_ _ | refine blk_drew ?_ | refine blk_alloc ?_ _)); exact BK181.out), (by (with_reducible repeat (first | refine blk_drewN ?_ _ | refine blk_drew ?_ | refine blk_alloc ?_ _)); exact BK192.out), (by (with_reducible repeat (first | refine blk_drewN ?_ _ | refine blk_drew ?_ | refine blk_alloc ?_ _)); exact BK209.out), GW209.out, GE209.out, NB168_209.out, NB209_168.out, NB175_209.out, NB209_175.out, NB181_209.out, NB209_181.out, NB192_209.out, NB209_192.out, (by repeat (first | (with_reducible first | exact HB.out | apply below_alloc | apply pw_below_drewN | apply below_drew1 | refine below_set ?_ GE168.out | refine below_set ?_ GE175.out | refine below_set ?_ GE181.out | refine below_set ?_ GE192.out | refine below_set ?_ GE209.out) | exact HB.out))⟩)
                                skip
                                refine box_step ?hg (N := 19) ?hd (cs := #[.int .i64 0, .int .u32 0, .string (⟨#[]⟩ : ByteArray), .bool false]) (t := 32) ?hr ?_; (case hd => rfl); (case hg => rfl); (case hr => first | (go_simp; done) | (go_simp; rfl))
                                intro gb209 hg w107 hbox hb
                                have HS13_ := (hb.cell (World.block_lt_of_cell? _ _ (hHeld.2.2.2.2.2.2.2.2.2.2.2.2.2))).trans (hHeld.2.2.2.2.2.2.2.2.2.2.2.2.2)
                                have n0_ := Aside0.mk (Kd.R_below (by (with_reducible repeat (first | apply Kd.R_alloc | apply Kd.R_drewN | apply Kd.R_drew)); exact HO_10.out) hb)
                                have n1_ := Aside0.mk (blk_below (g := gb168) (o := .cells #[.string a0_0, .int .i64 a0_1, .int .i64 a0_2, .int .i64 a0_3, .int .i64 a0_4, .int .u32 a0_5, .string a0_6, .bool a0_7, .slice A0_8 l0_8.length c0_8] 35 (0, 0)) (by (with_reducible repeat (first | refine blk_drewN ?_ _ | refine blk_drew ?_ | refine blk_alloc ?_ _)); exact BK168.out) hb)
                                have n2_ := Aside0.mk (blk_below (g := gb175) (o := .cells #[.string x176000_9, .int .i64 x176001_9, .int .i64 x176002_9, .int .i64 x176003_9] 30 (0, 0)) (by (with_reducible repeat (first | refine blk_drewN ?_ _ | refine blk_drew ?_ | refine blk_alloc ?_ _)); exact BK175.out) hb)
                                have n3_ := Aside0.mk (blk_below (g := gb181) (o := .cells #[.int .i64 x182000_9, .int .u32 x182001_9, .string x182002_9, .bool x182003_9] 32 (0, 0)) (by (with_reducible repeat (first | refine blk_drewN ?_ _ | refine blk_drew ?_ | refine blk_alloc ?_ _)); exact BK181.out) hb)
                                have n4_ := Aside0.mk (blk_below (g := gb192) (o := .cells #[.string t184, .int .i64 t185, .int .i64 t186, .int .i64 t187] 30 (0, 0)) (by (with_reducible repeat (first | refine blk_drewN ?_ _ | refine blk_drew ?_ | refine blk_alloc ?_ _)); exact BK192.out) hb)
                                have n5_ := Aside0.mk (below_step (by repeat (first | (with_reducible first | exact HB.out | apply below_alloc | apply pw_below_drewN | apply below_drew1 | refine below_set ?_ GE168.out | refine below_set ?_ GE175.out | refine below_set ?_ GE181.out | refine below_set ?_ GE192.out) | exact HB.out)) hb)
                                have n6_ := Aside0.mk (hbox)
                                have n7_ := Aside0.mk ((by rw [hg]; exact (below_size (by repeat (first | (with_reducible first | exact HB.out | apply below_alloc | apply pw_below_drewN | apply below_drew1 | refine below_set ?_ GE168.out | refine below_set ?_ GE175.out | refine below_set ?_ GE181.out | refine below_set ?_ GE192.out) | exact HB.out))) : w.heap.size ≤ gb209))
                                have n8_ := Aside0.mk ((by rw [hg]; exact (below_size (by repeat (first | (with_reducible first | exact HB.out | apply below_alloc | apply pw_below_drewN | apply below_drew1 | refine below_set ?_ GE168.out | refine below_set ?_ GE175.out | refine below_set ?_ GE181.out | refine below_set ?_ GE192.out) | exact HB.out))) : w.heap.size ≤ gb209))
                                have n9_ := Aside0.mk ((by rw [hg]; exact Nat.ne_of_lt (blk_lt (g := gb168) (o := .cells #[.string a0_0, .int .i64 a0_1, .int .i64 a0_2, .int .i64 a0_3, .int .i64 a0_4, .int .u32 a0_5, .string a0_6, .bool a0_7, .slice A0_8 l0_8.length c0_8] 35 (0, 0)) (by (with_reducible repeat (first | refine blk_drewN ?_ _ | refine blk_drew ?_ | refine blk_alloc ?_ _)); exact BK168.out)) : gb168 ≠ gb209))
                                have n10_ := Aside0.mk ((by rw [hg]; exact Nat.ne_of_gt (blk_lt (g := gb168) (o := .cells #[.string a0_0, .int .i64 a0_1, .int .i64 a0_2, .int .i64 a0_3, .int .i64 a0_4, .int .u32 a0_5, .string a0_6, .bool a0_7, .slice A0_8 l0_8.length c0_8] 35 (0, 0)) (by (with_reducible repeat (first | refine blk_drewN ?_ _ | refine blk_drew ?_ | refine blk_alloc ?_ _)); exact BK168.out)) : gb209 ≠ gb168))
                                have n11_ := Aside0.mk ((by rw [hg]; exact Nat.ne_of_lt (blk_lt (g := gb175) (o := .cells #[.string x176000_9, .int .i64 x176001_9, .int .i64 x176002_9, .int .i64 x176003_9] 30 (0, 0)) (by (with_reducible repeat (first | refine blk_drewN ?_ _ | refine blk_drew ?_ | refine blk_alloc ?_ _)); exact BK175.out)) : gb175 ≠ gb209))
                                have n12_ := Aside0.mk ((by rw [hg]; exact Nat.ne_of_gt (blk_lt (g := gb175) (o := .cells #[.string x176000_9, .int .i64 x176001_9, .int .i64 x176002_9, .int .i64 x176003_9] 30 (0, 0)) (by (with_reducible repeat (first | refine blk_drewN ?_ _ | refine blk_drew ?_ | refine blk_alloc ?_ _)); exact BK175.out)) : gb209 ≠ gb175))
                                have n13_ := Aside0.mk ((by rw [hg]; exact Nat.ne_of_lt (blk_lt (g := gb181) (o := .cells #[.int .i64 x182000_9, .int .u32 x182001_9, .string x182002_9, .bool x182003_9] 32 (0, 0)) (by (with_reducible repeat (first | refine blk_drewN ?_ _ | refine blk_drew ?_ | refine blk_alloc ?_ _)); exact BK181.out)) : gb181 ≠ gb209))
                                have n14_ := Aside0.mk ((by rw [hg]; exact Nat.ne_of_gt (blk_lt (g := gb181) (o := .cells #[.int .i64 x182000_9, .int .u32 x182001_9, .string x182002_9, .bool x182003_9] 32 (0, 0)) (by (with_reducible repeat (first | refine blk_drewN ?_ _ | refine blk_drew ?_ | refine blk_alloc ?_ _)); exact BK181.out)) : gb209 ≠ gb181))
                                have n15_ := Aside0.mk ((by rw [hg]; exact Nat.ne_of_lt (blk_lt (g := gb192) (o := .cells #[.string t184, .int .i64 t185, .int .i64 t186, .int .i64 t187] 30 (0, 0)) (by (with_reducible repeat (first | refine blk_drewN ?_ _ | refine blk_drew ?_ | refine blk_alloc ?_ _)); exact BK192.out)) : gb192 ≠ gb209))
                                have n16_ := Aside0.mk ((by rw [hg]; exact Nat.ne_of_gt (blk_lt (g := gb192) (o := .cells #[.string t184, .int .i64 t185, .int .i64 t186, .int .i64 t187] 30 (0, 0)) (by (with_reducible repeat (first | refine blk_drewN ?_ _ | refine blk_drew ?_ | refine blk_alloc ?_ _)); exact BK192.out)) : gb209 ≠ gb192))
                                clear HO_10; clear BK168; clear BK175; clear BK181; clear BK192; clear HB; have HO_10 := n0_; have BK168 := n1_; have BK175 := n2_; have BK181 := n3_; have BK192 := n4_; have HB := n5_; have BK209 := n6_; have GW209 := n7_; have GE209 := n8_; have NB168_209 := n9_; have NB209_168 := n10_; have NB175_209 := n11_; have NB209_175 := n12_; have NB181_209 := n13_; have NB209_181 := n14_; have NB192_209 := n15_; have NB209_192 := n16_; clear n0_ n1_ n2_ n3_ n4_ n5_ n6_ n7_ n8_ n9_ n10_ n11_ n12_ n13_ n14_ n15_ n16_; clear hb hbox hg
                                refine hK.out _ _ ⟨(blk_cell BK181.out 0).trans rfl, (blk_cell BK181.out 1).trans rfl, (blk_cell BK181.out 2).trans rfl, (blk_cell BK181.out 3).trans rfl, (blk_cell BK168.out 0).trans rfl, (blk_cell BK168.out 1).trans rfl, (blk_cell BK168.out 2).trans rfl, (blk_cell BK168.out 3).trans rfl, (blk_cell BK168.out 4).trans rfl, (blk_cell BK168.out 5).trans rfl, (blk_cell BK168.out 6).trans rfl, (blk_cell BK168.out 7).trans rfl, (blk_cell BK168.out 8).trans rfl, HS13_⟩ (fun hHeld => ?_)
                                clear hK K
                                refine norm_ (a' := ?_) ?_ ?_
                                rotate_left
                                ·
                                 show Act.put _ (some 19) _ = _
                                 simp only [Act.put, List.setIfInBounds_toArray, List.set_cons_zero, List.set_cons_succ, i64_w, i32_w]
                                 rfl
                                refine one_ (i := 11) (N := some 160) #[true, true, true, true, true, true, true, true, true, true, true, true, false, false, false, false, false, true, false, false, false, false] rfl rfl (one_of HT_.out (by kernel_rfl)) (by decide) (fun K hK => ?_)
                                refine goes_ Try.func25 (by kernel_rfl) rfl #[.agg #[.int .i64 x182000_9, .int .u32 x182001_9, .string x182002_9, .bool x182003_9], .int .i64 (rd t188 x13_5), .int .i64 (a0_0.size : Int), .int .u32 t182, .string t196] (by rfl) rfl rfl (by (try simp only [List.map_toArray, List.map_cons, List.map_nil]); first | done | rfl | (simp only [List.length_drop, List.length_take]; rfl)) ?_
                                with_reducible refine (stream_Take.calls kj98 x182000_9 x182001_9 x182002_9 x182003_9 (rd t188 x13_5) (a0_0.size : Int) t182 t196 t202 t203 t204 t205 t206 t207 t208 _ A104.out).mono ?_
                                rintro e w108 ⟨rfl, hb⟩
                                have HS13_ := (hb.cell (World.block_lt_of_cell? _ _ (hHeld.2.2.2.2.2.2.2.2.2.2.2.2.2))).trans (hHeld.2.2.2.2.2.2.2.2.2.2.2.2.2)
                                refine ⟨_, rfl, ?_⟩
                                have n0_ := Aside0.mk (Kd.R_below (by (with_reducible repeat (first | apply Kd.R_alloc | apply Kd.R_drewN | apply Kd.R_drew)); exact HO_10.out) hb)
                                have n1_ := Aside0.mk (blk_below (g := gb168) (o := .cells #[.string a0_0, .int .i64 a0_1, .int .i64 a0_2, .int .i64 a0_3, .int .i64 a0_4, .int .u32 a0_5, .string a0_6, .bool a0_7, .slice A0_8 l0_8.length c0_8] 35 (0, 0)) (by (with_reducible repeat (first | refine blk_drewN ?_ _ | refine blk_drew ?_ | refine blk_alloc ?_ _)); exact BK168.out) hb)
                                have n2_ := Aside0.mk (blk_below (g := gb175) (o := .cells #[.string x176000_9, .int .i64 x176001_9, .int .i64 x176002_9, .int .i64 x176003_9] 30 (0, 0)) (by (with_reducible repeat (first | refine blk_drewN ?_ _ | refine blk_drew ?_ | refine blk_alloc ?_ _)); exact BK175.out) hb)
                                have n3_ := Aside0.mk (blk_below (g := gb181) (o := .cells #[.int .i64 x182000_9, .int .u32 x182001_9, .string x182002_9, .bool x182003_9] 32 (0, 0)) (by (with_reducible repeat (first | refine blk_drewN ?_ _ | refine blk_drew ?_ | refine blk_alloc ?_ _)); exact BK181.out) hb)
                                have n4_ := Aside0.mk (blk_below (g := gb192) (o := .cells #[.string t184, .int .i64 t185, .int .i64 t186, .int .i64 t187] 30 (0, 0)) (by (with_reducible repeat (first | refine blk_drewN ?_ _ | refine blk_drew ?_ | refine blk_alloc ?_ _)); exact BK192.out) hb)
                                have n5_ := Aside0.mk (blk_below (g := gb209) (o := .cells #[.int .i64 0, .int .u32 0, .string (⟨#[]⟩ : ByteArray), .bool false] 32 (0, 0)) (by (with_reducible repeat (first | refine blk_drewN ?_ _ | refine blk_drew ?_ | refine blk_alloc ?_ _)); exact BK209.out) hb)
                                have n6_ := Aside0.mk (below_step (by repeat (first | (with_reducible first | exact HB.out | apply below_alloc | apply pw_below_drewN | apply below_drew1 | refine below_set ?_ GE168.out | refine below_set ?_ GE175.out | refine below_set ?_ GE181.out | refine below_set ?_ GE192.out | refine below_set ?_ GE209.out) | exact HB.out)) hb)
                                clear HO_10; clear BK168; clear BK175; clear BK181; clear BK192; clear BK209; clear HB; have HO_10 := n0_; have BK168 := n1_; have BK175 := n2_; have BK181 := n3_; have BK192 := n4_; have BK209 := n5_; have HB := n6_; clear n0_ n1_ n2_ n3_ n4_ n5_ n6_
                                (try clear hb)
                                (try clear hb2)
                                (try clear hk)
                                (try clear hi)
                                refine hK.out _ _ ⟨(blk_cell BK181.out 0).trans rfl, (blk_cell BK181.out 1).trans rfl, (blk_cell BK181.out 2).trans rfl, (blk_cell BK181.out 3).trans rfl, (blk_cell BK168.out 0).trans rfl, (blk_cell BK168.out 1).trans rfl, (blk_cell BK168.out 2).trans rfl, (blk_cell BK168.out 3).trans rfl, (blk_cell BK168.out 4).trans rfl, (blk_cell BK168.out 5).trans rfl, (blk_cell BK168.out 6).trans rfl, (blk_cell BK168.out 7).trans rfl, (blk_cell BK168.out 8).trans rfl, HS13_⟩ (fun hHeld => ?_)
                                clear hK K
                                refine norm_ (a' := ?_) ?_ ?_
                                rotate_left
                                ·
                                 show Act.put _ (some 160) _ = _
                                 simp only [Act.put, List.setIfInBounds_toArray, List.set_cons_zero, List.set_cons_succ, i64_w, i32_w]
                                 rfl
                                refine pure_ (i := 12) (N := some 148) (v := ?_) (a' := ?_) #[true, true, true, true, true, true, true, true, true, true, true, true, true, false, false, false, false, true, false, false, false, false] rfl rfl (any_of HT_.out (by kernel_rfl)) (fun _ _ _ h => h) (Or.inl ⟨by rfl, ?_⟩) ?_ ?_
                                rotate_left
                                ·
                                 intro w'
                                 go_simp
                                 with_reducible rfl
                                rotate_left
                                ·
                                 simp only [Act.put, List.setIfInBounds_toArray, List.set_cons_zero, List.set_cons_succ, i64_w, i32_w]
                                 rfl
                                refine pure_ (i := 13) (N := some 161) (v := ?_) (a' := ?_) #[true, true, true, true, true, true, true, true, true, true, true, true, true, true, false, false, false, true, false, false, false, false] rfl rfl (any_of HT_.out (by kernel_rfl)) (fun _ _ _ h => h) (Or.inl ⟨by rfl, ?_⟩) ?_ ?_
                                rotate_left
                                ·
                                 intro w'
                                 go_simp
                                 with_reducible rfl
                                rotate_left
                                ·
                                 simp only [Act.put, List.setIfInBounds_toArray, List.set_cons_zero, List.set_cons_succ, i64_w, i32_w]
                                 rfl
                                refine pure_ (i := 14) (N := some 162) (v := ?_) (a' := ?_) #[true, true, true, true, true, true, true, true, true, true, true, true, true, true, true, false, false, true, false, false, false, false] rfl rfl (any_of HT_.out (by kernel_rfl)) (fun _ _ _ h => h) (Or.inl ⟨by rfl, ?_⟩) ?_ ?_
                                rotate_left
                                ·
                                 intro w'
                                 go_simp
                                 with_reducible rfl
                                rotate_left
                                ·
                                 simp only [Act.put, List.setIfInBounds_toArray, List.set_cons_zero, List.set_cons_succ, i64_w, i32_w]
                                 rfl
                                refine pure_ (i := 15) (N := some 163) (v := ?_) (a' := ?_) #[true, true, true, true, true, true, true, true, true, true, true, true, true, true, true, true, false, true, false, false, false, false] rfl rfl (any_of HT_.out (by kernel_rfl)) (fun _ _ _ h => h) (Or.inl ⟨by rfl, ?_⟩) ?_ ?_
                                rotate_left
                                ·
                                 intro w'
                                 go_simp
                                 with_reducible rfl
                                rotate_left
                                ·
                                 simp only [Act.put, List.setIfInBounds_toArray, List.set_cons_zero, List.set_cons_succ, i64_w, i32_w]
                                 rfl
                                refine pure_ (i := 16) (N := some 164) (v := ?_) (a' := ?_) #[true, true, true, true, true, true, true, true, true, true, true, true, true, true, true, true, true, true, false, false, false, false] rfl rfl (any_of HT_.out (by kernel_rfl)) (fun _ _ _ h => h) (Or.inl ⟨by rfl, ?_⟩) ?_ ?_
                                rotate_left
                                ·
                                 intro w'
                                 go_simp
                                 with_reducible rfl
                                rotate_left
                                ·
                                 simp only [Act.put, List.setIfInBounds_toArray, List.set_cons_zero, List.set_cons_succ, i64_w, i32_w]
                                 rfl
                                exact norm_ (by simp only [putAll, Act.put, List.setIfInBounds_toArray, List.set_cons_zero, List.set_cons_succ]) (hCont (gb209) _ ⟨hHeld, (by (with_reducible repeat (first | apply Kd.R_alloc | apply Kd.R_drewN | apply Kd.R_drew)); exact HO_10.out), (by (with_reducible repeat (first | refine blk_drewN ?_ _ | refine blk_drew ?_ | refine blk_alloc ?_ _)); exact BK168.out), (by (with_reducible repeat (first | refine blk_drewN ?_ _ | refine blk_drew ?_ | refine blk_alloc ?_ _)); exact BK175.out), (by (with_reducible repeat (first | refine blk_drewN ?_ _ | refine blk_drew ?_ | refine blk_alloc ?_ _)); exact BK181.out), (by (with_reducible repeat (first | refine blk_drewN ?_ _ | refine blk_drew ?_ | refine blk_alloc ?_ _)); exact BK192.out), (by (with_reducible repeat (first | refine blk_drewN ?_ _ | refine blk_drew ?_ | refine blk_alloc ?_ _)); exact BK209.out), GW209.out, GE209.out, NB168_209.out, NB209_168.out, NB175_209.out, NB209_175.out, NB181_209.out, NB209_181.out, NB192_209.out, NB209_192.out, (by repeat (first | (with_reducible first | exact HB.out | apply below_alloc | apply pw_below_drewN | apply below_drew1 | refine below_set ?_ GE168.out | refine below_set ?_ GE175.out | refine below_set ?_ GE181.out | refine below_set ?_ GE192.out | refine below_set ?_ GE209.out) | exact HB.out))⟩)
                               rintro gb209 w109 ⟨hS_, h0_, h1_, h2_, h3_, h4_, h5_, h6_, h7_, h8_, h9_, h10_, h11_, h12_, h13_, h14_, h15_, h16_⟩
                               have n0_ : Aside0 (Kd.R (Kd.int .i64) 3 w109 w.heap.size (fun _ => True) (.slice (some ad194) t188.length co73) t188) := ⟨h0_⟩
                               have n1_ : Aside0 (w109.heap[gb168]? = some (.cells #[.string a0_0, .int .i64 a0_1, .int .i64 a0_2, .int .i64 a0_3, .int .i64 a0_4, .int .u32 a0_5, .string a0_6, .bool a0_7, .slice A0_8 l0_8.length c0_8] 35 (0, 0))) := ⟨h1_⟩
                               have n2_ : Aside0 (w109.heap[gb175]? = some (.cells #[.string x176000_9, .int .i64 x176001_9, .int .i64 x176002_9, .int .i64 x176003_9] 30 (0, 0))) := ⟨h2_⟩
                               have n3_ : Aside0 (w109.heap[gb181]? = some (.cells #[.int .i64 x182000_9, .int .u32 x182001_9, .string x182002_9, .bool x182003_9] 32 (0, 0))) := ⟨h3_⟩
                               have n4_ : Aside0 (w109.heap[gb192]? = some (.cells #[.string t184, .int .i64 t185, .int .i64 t186, .int .i64 t187] 30 (0, 0))) := ⟨h4_⟩
                               have n5_ : Aside0 (w109.heap[gb209]? = some (.cells #[.int .i64 0, .int .u32 0, .string (⟨#[]⟩ : ByteArray), .bool false] 32 (0, 0))) := ⟨h5_⟩
                               have n6_ : Aside0 (w.heap.size ≤ gb209) := ⟨h6_⟩
                               have n7_ : Aside0 (w.heap.size ≤ gb209) := ⟨h7_⟩
                               have n8_ : Aside0 (gb168 ≠ gb209) := ⟨h8_⟩
                               have n9_ : Aside0 (gb209 ≠ gb168) := ⟨h9_⟩
                               have n10_ : Aside0 (gb175 ≠ gb209) := ⟨h10_⟩
                               have n11_ : Aside0 (gb209 ≠ gb175) := ⟨h11_⟩
                               have n12_ : Aside0 (gb181 ≠ gb209) := ⟨h12_⟩
                               have n13_ : Aside0 (gb209 ≠ gb181) := ⟨h13_⟩
                               have n14_ : Aside0 (gb192 ≠ gb209) := ⟨h14_⟩
                               have n15_ : Aside0 (gb209 ≠ gb192) := ⟨h15_⟩
                               have n16_ : Aside0 (Below w.heap.size w w109) := ⟨h16_⟩
                               clear HO_10; clear BK168; clear BK175; clear BK181; clear BK192; clear HB; clear h0_ h1_ h2_ h3_ h4_ h5_ h6_ h7_ h8_ h9_ h10_ h11_ h12_ h13_ h14_ h15_ h16_; have HO_10 := n0_; have BK168 := n1_; have BK175 := n2_; have BK181 := n3_; have BK192 := n4_; have BK209 := n5_; have GW209 := n6_; have GE209 := n7_; have NB168_209 := n8_; have NB209_168 := n9_; have NB175_209 := n10_; have NB209_175 := n11_; have NB181_209 := n12_; have NB209_181 := n13_; have NB192_209 := n14_; have NB209_192 := n15_; have HB := n16_; clear n0_ n1_ n2_ n3_ n4_ n5_ n6_ n7_ n8_ n9_ n10_ n11_ n12_ n13_ n14_ n15_ n16_
                               have hHeld : w109.cell? ⟨gb181, 0, none⟩ = some (.int .i64 x182000_9) ∧ w109.cell? ⟨gb181, 1, none⟩ = some (.int .u32 x182001_9) ∧ w109.cell? ⟨gb181, 2, none⟩ = some (.string x182002_9) ∧ w109.cell? ⟨gb181, 3, none⟩ = some (.bool x182003_9) ∧ w109.cell? ⟨gb168, 0, none⟩ = some (.string a0_0) ∧ w109.cell? ⟨gb168, 1, none⟩ = some (.int .i64 a0_1) ∧ w109.cell? ⟨gb168, 2, none⟩ = some (.int .i64 a0_2) ∧ w109.cell? ⟨gb168, 3, none⟩ = some (.int .i64 a0_3) ∧ w109.cell? ⟨gb168, 4, none⟩ = some (.int .i64 a0_4) ∧ w109.cell? ⟨gb168, 5, none⟩ = some (.int .u32 a0_5) ∧ w109.cell? ⟨gb168, 6, none⟩ = some (.string a0_6) ∧ w109.cell? ⟨gb168, 7, none⟩ = some (.bool a0_7) ∧ w109.cell? ⟨gb168, 8, none⟩ = some (.slice A0_8 l0_8.length c0_8) ∧ w109.cell? (ad194.add (x13_5).toNat) = some (.int .i64 (rd t188 x13_5)) := hS_
                               refine norm_ (a' := ?_) ?_ ?_
                               rotate_left
                               ·
                                simp only [putAll, Act.put, List.setIfInBounds_toArray, List.set_cons_zero, List.set_cons_succ]
                                rfl
                               refine one_ (i := 18) (N := none) #[true, true, true, true, true, true, true, true, true, true, true, true, true, true, true, true, true, true, true, false, false, false] rfl rfl (one_of HT_.out (by kernel_rfl)) (by decide) (fun K hK => ?_)
                               have hs110 : w109.cell? ⟨gb209, 0, none⟩ = some (.int .i64 0) := (blk_cell BK209.out 0).trans rfl
                               have hfs110 := blk_frozen BK209.out 0; have hns110_0 := NB168_209.out; have hns110_1 := NB175_209.out; have hns110_2 := NB181_209.out; have hns110_3 := NB192_209.out; have hms110_0 := NB209_168.out; have hms110_1 := NB209_175.out; have hms110_2 := NB209_181.out; have hms110_3 := NB209_192.out
                               have hs111 : w109.cell? ⟨gb209, 1, none⟩ = some (.int .u32 0) := (blk_cell BK209.out 1).trans rfl
                               have hfs111 := blk_frozen BK209.out 1; have hns111_0 := NB168_209.out; have hns111_1 := NB175_209.out; have hns111_2 := NB181_209.out; have hns111_3 := NB192_209.out; have hms111_0 := NB209_168.out; have hms111_1 := NB209_175.out; have hms111_2 := NB209_181.out; have hms111_3 := NB209_192.out
                               have hs112 : w109.cell? ⟨gb209, 2, none⟩ = some (.string (⟨#[]⟩ : ByteArray)) := (blk_cell BK209.out 2).trans rfl
                               have hfs112 := blk_frozen BK209.out 2; have hns112_0 := NB168_209.out; have hns112_1 := NB175_209.out; have hns112_2 := NB181_209.out; have hns112_3 := NB192_209.out; have hms112_0 := NB209_168.out; have hms112_1 := NB209_175.out; have hms112_2 := NB209_181.out; have hms112_3 := NB209_192.out
                               have hs113 : w109.cell? ⟨gb209, 3, none⟩ = some (.bool false) := (blk_cell BK209.out 3).trans rfl
                               have hfs113 := blk_frozen BK209.out 3; have hns113_0 := NB168_209.out; have hns113_1 := NB175_209.out; have hns113_2 := NB181_209.out; have hns113_3 := NB192_209.out; have hms113_0 := NB209_168.out; have hms113_1 := NB209_175.out; have hms113_2 := NB209_181.out; have hms113_3 := NB209_192.out
                               refine skip_ (w1 := ?_) (by rfl) rfl ?_ ?_
                               rotate_left
                               ·
                                go_simp
                                rfl
                               refine hK.out _ _ ⟨((cell_far (p := ⟨gb209, _, none⟩) NB181_209.out _).trans (((cell_far (p := ⟨gb209, _, none⟩) NB181_209.out _).trans (((cell_far (p := ⟨gb209, _, none⟩) NB181_209.out _).trans (((cell_far (p := ⟨gb209, _, none⟩) NB181_209.out _).trans (hHeld.1)))))))), ((cell_far (p := ⟨gb209, _, none⟩) NB181_209.out _).trans (((cell_far (p := ⟨gb209, _, none⟩) NB181_209.out _).trans (((cell_far (p := ⟨gb209, _, none⟩) NB181_209.out _).trans (((cell_far (p := ⟨gb209, _, none⟩) NB181_209.out _).trans (hHeld.2.1)))))))), ((cell_far (p := ⟨gb209, _, none⟩) NB181_209.out _).trans (((cell_far (p := ⟨gb209, _, none⟩) NB181_209.out _).trans (((cell_far (p := ⟨gb209, _, none⟩) NB181_209.out _).trans (((cell_far (p := ⟨gb209, _, none⟩) NB181_209.out _).trans (hHeld.2.2.1)))))))), ((cell_far (p := ⟨gb209, _, none⟩) NB181_209.out _).trans (((cell_far (p := ⟨gb209, _, none⟩) NB181_209.out _).trans (((cell_far (p := ⟨gb209, _, none⟩) NB181_209.out _).trans (((cell_far (p := ⟨gb209, _, none⟩) NB181_209.out _).trans (hHeld.2.2.2.1)))))))), ((cell_far (p := ⟨gb209, _, none⟩) NB168_209.out _).trans (((cell_far (p := ⟨gb209, _, none⟩) NB168_209.out _).trans (((cell_far (p := ⟨gb209, _, none⟩) NB168_209.out _).trans (((cell_far (p := ⟨gb209, _, none⟩) NB168_209.out _).trans (hHeld.2.2.2.2.1)))))))), ((cell_far (p := ⟨gb209, _, none⟩) NB168_209.out _).trans (((cell_far (p := ⟨gb209, _, none⟩) NB168_209.out _).trans (((cell_far (p := ⟨gb209, _, none⟩) NB168_209.out _).trans (((cell_far (p := ⟨gb209, _, none⟩) NB168_209.out _).trans (hHeld.2.2.2.2.2.1)))))))), ((cell_far (p := ⟨gb209, _, none⟩) NB168_209.out _).trans (((cell_far (p := ⟨gb209, _, none⟩) NB168_209.out _).trans (((cell_far (p := ⟨gb209, _, none⟩) NB168_209.out _).trans (((cell_far (p := ⟨gb209, _, none⟩) NB168_209.out _).trans (hHeld.2.2.2.2.2.2.1)))))))), ((cell_far (p := ⟨gb209, _, none⟩) NB168_209.out _).trans (((cell_far (p := ⟨gb209, _, none⟩) NB168_209.out _).trans (((cell_far (p := ⟨gb209, _, none⟩) NB168_209.out _).trans (((cell_far (p := ⟨gb209, _, none⟩) NB168_209.out _).trans (hHeld.2.2.2.2.2.2.2.1)))))))), ((cell_far (p := ⟨gb209, _, none⟩) NB168_209.out _).trans (((cell_far (p := ⟨gb209, _, none⟩) NB168_209.out _).trans (((cell_far (p := ⟨gb209, _, none⟩) NB168_209.out _).trans (((cell_far (p := ⟨gb209, _, none⟩) NB168_209.out _).trans (hHeld.2.2.2.2.2.2.2.2.1)))))))), ((cell_far (p := ⟨gb209, _, none⟩) NB168_209.out _).trans (((cell_far (p := ⟨gb209, _, none⟩) NB168_209.out _).trans (((cell_far (p := ⟨gb209, _, none⟩) NB168_209.out _).trans (((cell_far (p := ⟨gb209, _, none⟩) NB168_209.out _).trans (hHeld.2.2.2.2.2.2.2.2.2.1)))))))), ((cell_far (p := ⟨gb209, _, none⟩) NB168_209.out _).trans (((cell_far (p := ⟨gb209, _, none⟩) NB168_209.out _).trans (((cell_far (p := ⟨gb209, _, none⟩) NB168_209.out _).trans (((cell_far (p := ⟨gb209, _, none⟩) NB168_209.out _).trans (hHeld.2.2.2.2.2.2.2.2.2.2.1)))))))), ((cell_far (p := ⟨gb209, _, none⟩) NB168_209.out _).trans (((cell_far (p := ⟨gb209, _, none⟩) NB168_209.out _).trans (((cell_far (p := ⟨gb209, _, none⟩) NB168_209.out _).trans (((cell_far (p := ⟨gb209, _, none⟩) NB168_209.out _).trans (hHeld.2.2.2.2.2.2.2.2.2.2.2.1)))))))), ((cell_far (p := ⟨gb209, _, none⟩) NB168_209.out _).trans (((cell_far (p := ⟨gb209, _, none⟩) NB168_209.out _).trans (((cell_far (p := ⟨gb209, _, none⟩) NB168_209.out _).trans (((cell_far (p := ⟨gb209, _, none⟩) NB168_209.out _).trans (hHeld.2.2.2.2.2.2.2.2.2.2.2.2.1)))))))), ((cell_far (p := ⟨gb209, _, none⟩) (by first | exact Kd.own_blk (Kd.R_ne HO_10.out BK209.out (by decide)) | (rw [add_block]; exact Kd.own_blk (Kd.R_ne HO_10.out BK209.out (by decide))) | (show (Addr.add _ _).block ≠ _; rw [add_block]; exact Kd.own_blk (Kd.R_ne HO_10.out BK209.out (by decide))) | (dsimp only; exact Kd.own_blk (Kd.R_ne HO_10.out BK209.out (by decide)))) _).trans (((cell_far (p := ⟨gb209, _, none⟩) (by first | exact Kd.own_blk (Kd.R_ne HO_10.out BK209.out (by decide)) | (rw [add_block]; exact Kd.own_blk (Kd.R_ne HO_10.out BK209.out (by decide))) | (show (Addr.add _ _).block ≠ _; rw [add_block]; exact Kd.own_blk (Kd.R_ne HO_10.out BK209.out (by decide))) | (dsimp only; exact Kd.own_blk (Kd.R_ne HO_10.out BK209.out (by decide)))) _).trans (((cell_far (p := ⟨gb209, _, none⟩) (by first | exact Kd.own_blk (Kd.R_ne HO_10.out BK209.out (by decide)) | (rw [add_block]; exact Kd.own_blk (Kd.R_ne HO_10.out BK209.out (by decide))) | (show (Addr.add _ _).block ≠ _; rw [add_block]; exact Kd.own_blk (Kd.R_ne HO_10.out BK209.out (by decide))) | (dsimp only; exact Kd.own_blk (Kd.R_ne HO_10.out BK209.out (by decide)))) _).trans (((cell_far (p := ⟨gb209, _, none⟩) (by first | exact Kd.own_blk (Kd.R_ne HO_10.out BK209.out (by decide)) | (rw [add_block]; exact Kd.own_blk (Kd.R_ne HO_10.out BK209.out (by decide))) | (show (Addr.add _ _).block ≠ _; rw [add_block]; exact Kd.own_blk (Kd.R_ne HO_10.out BK209.out (by decide))) | (dsimp only; exact Kd.own_blk (Kd.R_ne HO_10.out BK209.out (by decide)))) _).trans (hHeld.2.2.2.2.2.2.2.2.2.2.2.2.2))))))))⟩ (fun hHeld => ?_)
                               clear hK K
                               refine pure_ (i := 19) (N := some 20) (v := ?_) (a' := ?_) #[true, true, true, true, true, true, true, true, true, true, true, true, true, true, true, true, true, true, true, true, false, false] rfl rfl (any_of HT_.out (by kernel_rfl)) (fun _ _ _ h => h) (Or.inl ⟨by rfl, ?_⟩) ?_ ?_
                               rotate_left
                               ·
                                intro w'
                                go_simp
                                with_reducible rfl
                               rotate_left
                               ·
                                simp only [Act.put, List.setIfInBounds_toArray, List.set_cons_zero, List.set_cons_succ, i64_w, i32_w]
                                rfl
                               refine pure_ (i := 20) (N := some 21) (v := ?_) (a' := ?_) #[true, true, true, true, true, true, true, true, true, true, true, true, true, true, true, true, true, true, true, true, true, false] rfl rfl (any_of HT_.out (by kernel_rfl)) (fun _ _ _ h => h) (Or.inl ⟨by rfl, ?_⟩) ?_ ?_
                               rotate_left
                               ·
                                intro w'
                                go_simp
                                with_reducible rfl
                               rotate_left
                               ·
                                simp only [Act.put, List.setIfInBounds_toArray, List.set_cons_zero, List.set_cons_succ, i64_w, i32_w]
                                rfl
                               refine pure_ (i := 21) (N := some 22) (v := ?_) (a' := ?_) #[true, true, true, true, true, true, true, true, true, true, true, true, true, true, true, true, true, true, true, true, true, true] rfl rfl (any_of HT_.out (by kernel_rfl)) (fun _ _ _ h => h) (Or.inl ⟨by rfl, ?_⟩) ?_ ?_
                               rotate_left
                               ·
                                intro w'
                                go_simp
                                with_reducible rfl
                               rotate_left
                               ·
                                simp only [Act.put, List.setIfInBounds_toArray, List.set_cons_zero, List.set_cons_succ, i64_w, i32_w]
                                rfl
                               refine done_ (done_of HT_.out (by kernel_rfl)) ?_
                               go_upto_region 33 with (fail)
                               go_cut [187] (fun v187 wc => ∃ (kq : Nat) (x187_104 : Bool), v187 = .bool x187_104 ∧ Aside0 (thresherlaw20_StreamWhole.j10 kq t182 x7_9 x8_2 t188 x7_2 x13_5 t196 x16_71 x17_96 x18_9 t206 x187_104 a0_0 a0_1 a0_2 a0_3 a0_4 a0_5 a0_6 a0_7 l0_8 x176000_9 x176001_9 x176002_9 x176003_9 t202 t203 t204 t205 = some r) ∧ Aside0 (kq ≤ kj98) ∧ Aside0 (Kd.R (Kd.int .i64) 3 wc w.heap.size (fun _ => True) (.slice (some ad194) t188.length co73) t188) ∧ Aside0 (wc.heap[gb168]? = some (.cells #[.string a0_0, .int .i64 a0_1, .int .i64 a0_2, .int .i64 a0_3, .int .i64 a0_4, .int .u32 a0_5, .string a0_6, .bool a0_7, (.slice A0_8 l0_8.length c0_8)] 35 (0, 0))) ∧ Aside0 (wc.heap[gb175]? = some (.cells #[.string x176000_9, .int .i64 x176001_9, .int .i64 x176002_9, .int .i64 x176003_9] 30 (0, 0))) ∧ Aside0 (wc.heap[gb181]? = some (.cells #[.int .i64 x182000_9, .int .u32 x182001_9, .string x182002_9, .bool x182003_9] 32 (0, 0))) ∧ Aside0 (wc.heap[gb192]? = some (.cells #[.string t184, .int .i64 t185, .int .i64 t186, .int .i64 t187] 30 (0, 0))) ∧ Aside0 (wc.heap[gb209]? = some (.cells #[.int .i64 t202, .int .u32 t203, .string t204, .bool t205] 32 (0, 0))) ∧ Aside0 (Below w.heap.size w wc))
                               case first =>
                                as_aux_lemma =>
                                 have H := HC105.out; clear HC105
                                 replace H := Option.bind_eq_some_iff.mp H
                                 obtain ⟨t210, A1140, H⟩ := H
                                 replace H : (if t210 = 0 then (if t206 > (a0_0.size : Int) then (thresherlaw20_StreamWhole.j10 kj98 t182 x7_9 x8_2 t188 x7_2 x13_5 t196 x16_71 x17_96 x18_9 t206 true a0_0 a0_1 a0_2 a0_3 a0_4 a0_5 a0_6 a0_7 l0_8 x176000_9 x176001_9 x176002_9 x176003_9 t202 t203 t204 t205) else (if t205 = true then (thresherlaw20_StreamWhole.j10 kj98 t182 x7_9 x8_2 t188 x7_2 x13_5 t196 x16_71 x17_96 x18_9 t206 (t204.toList != a0_0.toList) a0_0 a0_1 a0_2 a0_3 a0_4 a0_5 a0_6 a0_7 l0_8 x176000_9 x176001_9 x176002_9 x176003_9 t202 t203 t204 t205) else (thresherlaw20_StreamWhole.j10 kj98 t182 x7_9 x8_2 t188 x7_2 x13_5 t196 x16_71 x17_96 x18_9 t206 false a0_0 a0_1 a0_2 a0_3 a0_4 a0_5 a0_6 a0_7 l0_8 x176000_9 x176001_9 x176002_9 x176003_9 t202 t203 t204 t205))) else (thresherlaw20_StreamWhole.j10 kj98 t182 x7_9 x8_2 t188 x7_2 x13_5 t196 x16_71 x17_96 x18_9 t206 true a0_0 a0_1 a0_2 a0_3 a0_4 a0_5 a0_6 a0_7 l0_8 x176000_9 x176001_9 x176002_9 x176003_9 t202 t203 t204 t205)) = some r := H
                                 have A114 := Aside0.mk A1140; clear A1140
                                 by_cases c115 : t210 = 0
                                 rotate_left
                                 ·
                                  rw [if_neg c115] at H
                                  have c115b0 : (t210 == 0) = false := beq_eq_false_iff_ne.mpr c115
                                  have c115b1 : (t210 != 0) = true := bne_iff_ne.mpr c115
                                  (first | rw [c115b0] | (simp only [i64_w, i32_w]; rw [c115b0]) | skip)
                                  have H' := Aside0.mk H
                                  clear H
                                  go_wp2_with (first | ((with_reducible refine gate_callee (f := 18) rfl ?_); refine goesL_ (some 166) rfl rfl Try.func18 (by kernel_rfl) rfl #[.int .i64 t208] rfl (by (try simp only [List.map_toArray, List.map_cons, List.map_nil]); first | done | rfl | (simp only [List.length_drop, List.length_take]; rfl)) ?_; (with_reducible refine (thresherlaw20_num.calls t208 t210 _ A114.out).mono ?_); rintro e w' ⟨rfl, ⟨nd, rfl⟩⟩; refine ⟨_, rfl, ?_⟩))
                                  go_meet
                                  case rel => exact ⟨_, (true), (by first | rfl | (simp; done) | (simp [*]; done)), H', ⟨by have := HJ1.out; have := HK2.out; have := HJ31.out; have := HJ43.out; have := HK5.out; have := HJ71.out; have := HJ85.out; have := HJ96.out; have := HK9.out; have := HJ98.out; first | omega | exact Nat.le_refl _⟩, ⟨by (with_reducible repeat (first | apply Kd.R_alloc | apply Kd.R_drewN | apply Kd.R_drew)); exact Kd.R_mono (Kd.R_far (p := ⟨gb209, 3, none⟩) (Kd.R_far (p := ⟨gb209, 2, none⟩) (Kd.R_far (p := ⟨gb209, 1, none⟩) (Kd.R_far (p := ⟨gb209, 0, none⟩) (Kd.R_types HO_10.out BK209.out (by decide)) (fun _ hk => hk.2) (.int .i64 t202)) (fun _ hk => hk.2) (.int .u32 t203)) (fun _ hk => hk.2) (.string t204)) (fun _ hk => hk.2) (.bool t205)) (fun _ hk => trivial)⟩, ⟨by (with_reducible repeat (first | refine blk_drewN ?_ _ | refine blk_drew ?_ | refine blk_alloc ?_ _ | refine blk_far ?_ NB168_209.out _)); exact BK168.out⟩, ⟨by (with_reducible repeat (first | refine blk_drewN ?_ _ | refine blk_drew ?_ | refine blk_alloc ?_ _ | refine blk_far ?_ NB175_209.out _)); exact BK175.out⟩, ⟨by (with_reducible repeat (first | refine blk_drewN ?_ _ | refine blk_drew ?_ | refine blk_alloc ?_ _ | refine blk_far ?_ NB181_209.out _)); exact BK181.out⟩, ⟨by (with_reducible repeat (first | refine blk_drewN ?_ _ | refine blk_drew ?_ | refine blk_alloc ?_ _ | refine blk_far ?_ NB192_209.out _)); exact BK192.out⟩, ⟨by (with_reducible repeat (first | refine blk_drewN ?_ _ | refine blk_drew ?_ | refine blk_alloc ?_ _)); refine blk_put (cs := #[.int .i64 t202, .int .u32 t203, .string t204, .bool false]) ?_ 3 _ rfl; (with_reducible repeat (first | refine blk_drewN ?_ _ | refine blk_drew ?_ | refine blk_alloc ?_ _)); refine blk_put (cs := #[.int .i64 t202, .int .u32 t203, .string (⟨#[]⟩ : ByteArray), .bool false]) ?_ 2 _ rfl; (with_reducible repeat (first | refine blk_drewN ?_ _ | refine blk_drew ?_ | refine blk_alloc ?_ _)); refine blk_put (cs := #[.int .i64 t202, .int .u32 0, .string (⟨#[]⟩ : ByteArray), .bool false]) ?_ 1 _ rfl; (with_reducible repeat (first | refine blk_drewN ?_ _ | refine blk_drew ?_ | refine blk_alloc ?_ _)); refine blk_put (cs := #[.int .i64 0, .int .u32 0, .string (⟨#[]⟩ : ByteArray), .bool false]) ?_ 0 _ rfl; (with_reducible repeat (first | refine blk_drewN ?_ _ | refine blk_drew ?_ | refine blk_alloc ?_ _)); exact BK209.out⟩, ⟨by repeat (first | (with_reducible first | exact HB.out | apply below_alloc | apply pw_below_drewN | apply below_drew1 | refine below_set ?_ GE168.out | refine below_set ?_ GE175.out | refine below_set ?_ GE181.out | refine below_set ?_ GE192.out | refine below_set ?_ GE209.out) | exact HB.out)⟩⟩
                                 rw [if_pos c115] at H
                                 have c115b0 : (t210 == 0) = true := beq_iff_eq.mpr c115
                                 have c115b1 : (t210 != 0) = false := bne_eq_false_iff_eq.mpr c115
                                 clear c115
                                 (first | rw [c115b0] | (simp only [i64_w, i32_w]; rw [c115b0]) | skip)
                                 by_cases c116 : t206 > (a0_0.size : Int)
                                 ·
                                  rw [if_pos c116] at H
                                  have c116b0 : decide ((a0_0.size : Int) < t206) = true := decide_eq_true c116
                                  clear c116
                                  have H' := Aside0.mk H
                                  clear H
                                  go_wp2_with (first | ((with_reducible refine gate_callee (f := 18) rfl ?_); refine goesL_ (some 166) rfl rfl Try.func18 (by kernel_rfl) rfl #[.int .i64 t208] rfl (by (try simp only [List.map_toArray, List.map_cons, List.map_nil]); first | done | rfl | (simp only [List.length_drop, List.length_take]; rfl)) ?_; (with_reducible refine (thresherlaw20_num.calls t208 t210 _ A114.out).mono ?_); rintro e w' ⟨rfl, ⟨nd, rfl⟩⟩; refine ⟨_, rfl, ?_⟩; have hnb117 := NB168_175.out; have hnc117 := NB175_168.out; have hnb118 := NB168_181.out; have hnc118 := NB181_168.out; have hnb119 := NB168_192.out; have hnc119 := NB192_168.out; have hnb120 := NB168_209.out; have hnc120 := NB209_168.out; obtain ⟨hcz121_0, hcz121_1, hcz121_2, hcz121_3, hcz121_4, hcz121_5, hcz121_6, hcz121_7, hcz121_8, hfz121_0, hfz121_1, hfz121_2, hfz121_3, hfz121_4, hfz121_5, hfz121_6, hfz121_7, hfz121_8⟩ := blkall_9 BK168.out))
                                  go_meet
                                  case rel => exact ⟨_, (true), (by first | rfl | (simp; done) | (simp [*]; done)), H', ⟨by have := HJ1.out; have := HK2.out; have := HJ31.out; have := HJ43.out; have := HK5.out; have := HJ71.out; have := HJ85.out; have := HJ96.out; have := HK9.out; have := HJ98.out; first | omega | exact Nat.le_refl _⟩, ⟨by (with_reducible repeat (first | apply Kd.R_alloc | apply Kd.R_drewN | apply Kd.R_drew)); exact Kd.R_mono (Kd.R_far (p := ⟨gb209, 3, none⟩) (Kd.R_far (p := ⟨gb209, 2, none⟩) (Kd.R_far (p := ⟨gb209, 1, none⟩) (Kd.R_far (p := ⟨gb209, 0, none⟩) (Kd.R_types HO_10.out BK209.out (by decide)) (fun _ hk => hk.2) (.int .i64 t202)) (fun _ hk => hk.2) (.int .u32 t203)) (fun _ hk => hk.2) (.string t204)) (fun _ hk => hk.2) (.bool t205)) (fun _ hk => trivial)⟩, ⟨by (with_reducible repeat (first | refine blk_drewN ?_ _ | refine blk_drew ?_ | refine blk_alloc ?_ _ | refine blk_far ?_ NB168_209.out _)); exact BK168.out⟩, ⟨by (with_reducible repeat (first | refine blk_drewN ?_ _ | refine blk_drew ?_ | refine blk_alloc ?_ _ | refine blk_far ?_ NB175_209.out _)); exact BK175.out⟩, ⟨by (with_reducible repeat (first | refine blk_drewN ?_ _ | refine blk_drew ?_ | refine blk_alloc ?_ _ | refine blk_far ?_ NB181_209.out _)); exact BK181.out⟩, ⟨by (with_reducible repeat (first | refine blk_drewN ?_ _ | refine blk_drew ?_ | refine blk_alloc ?_ _ | refine blk_far ?_ NB192_209.out _)); exact BK192.out⟩, ⟨by (with_reducible repeat (first | refine blk_drewN ?_ _ | refine blk_drew ?_ | refine blk_alloc ?_ _)); refine blk_put (cs := #[.int .i64 t202, .int .u32 t203, .string t204, .bool false]) ?_ 3 _ rfl; (with_reducible repeat (first | refine blk_drewN ?_ _ | refine blk_drew ?_ | refine blk_alloc ?_ _)); refine blk_put (cs := #[.int .i64 t202, .int .u32 t203, .string (⟨#[]⟩ : ByteArray), .bool false]) ?_ 2 _ rfl; (with_reducible repeat (first | refine blk_drewN ?_ _ | refine blk_drew ?_ | refine blk_alloc ?_ _)); refine blk_put (cs := #[.int .i64 t202, .int .u32 0, .string (⟨#[]⟩ : ByteArray), .bool false]) ?_ 1 _ rfl; (with_reducible repeat (first | refine blk_drewN ?_ _ | refine blk_drew ?_ | refine blk_alloc ?_ _)); refine blk_put (cs := #[.int .i64 0, .int .u32 0, .string (⟨#[]⟩ : ByteArray), .bool false]) ?_ 0 _ rfl; (with_reducible repeat (first | refine blk_drewN ?_ _ | refine blk_drew ?_ | refine blk_alloc ?_ _)); exact BK209.out⟩, ⟨by repeat (first | (with_reducible first | exact HB.out | apply below_alloc | apply pw_below_drewN | apply below_drew1 | refine below_set ?_ GE168.out | refine below_set ?_ GE175.out | refine below_set ?_ GE181.out | refine below_set ?_ GE192.out | refine below_set ?_ GE209.out) | exact HB.out)⟩⟩
                                 rw [if_neg c116] at H
                                 have c116b0 : decide ((a0_0.size : Int) < t206) = false := decide_eq_false c116
                                 clear c116
                                 by_cases c122 : t205 = true
                                 ·
                                  subst c122
                                  have H1 : (thresherlaw20_StreamWhole.j10 kj98 t182 x7_9 x8_2 t188 x7_2 x13_5 t196 x16_71 x17_96 x18_9 t206 (t204.toList != a0_0.toList) a0_0 a0_1 a0_2 a0_3 a0_4 a0_5 a0_6 a0_7 l0_8 x176000_9 x176001_9 x176002_9 x176003_9 t202 t203 t204 true) = some r := by rw [if_pos rfl] at H; exact H
                                  clear H; have H := H1; clear H1
                                  have H' := Aside0.mk H
                                  clear H
                                  go_wp2_with (first | ((with_reducible refine gate_callee (f := 18) rfl ?_); refine goesL_ (some 166) rfl rfl Try.func18 (by kernel_rfl) rfl #[.int .i64 t208] rfl (by (try simp only [List.map_toArray, List.map_cons, List.map_nil]); first | done | rfl | (simp only [List.length_drop, List.length_take]; rfl)) ?_; (with_reducible refine (thresherlaw20_num.calls t208 t210 _ A114.out).mono ?_); rintro e w' ⟨rfl, ⟨nd, rfl⟩⟩; refine ⟨_, rfl, ?_⟩; have hnb123 := NB168_175.out; have hnc123 := NB175_168.out; have hnb124 := NB168_181.out; have hnc124 := NB181_168.out; have hnb125 := NB168_192.out; have hnc125 := NB192_168.out; have hnb126 := NB168_209.out; have hnc126 := NB209_168.out; obtain ⟨hcz127_0, hcz127_1, hcz127_2, hcz127_3, hcz127_4, hcz127_5, hcz127_6, hcz127_7, hcz127_8, hfz127_0, hfz127_1, hfz127_2, hfz127_3, hfz127_4, hfz127_5, hfz127_6, hfz127_7, hfz127_8⟩ := blkall_9 BK168.out; have hnb128 := NB209_175.out; have hnc128 := NB175_209.out; have hnb129 := NB209_181.out; have hnc129 := NB181_209.out; have hnb130 := NB209_192.out; have hnc130 := NB192_209.out; obtain ⟨hcz131_0, hcz131_1, hcz131_2, hcz131_3, hfz131_0, hfz131_1, hfz131_2, hfz131_3⟩ := blkall_4 BK209.out))
                                  go_meet
                                  case rel => exact ⟨_, ((t204.toList != a0_0.toList)), (by first | rfl | (simp; done) | (simp [*]; done)), H', ⟨by have := HJ1.out; have := HK2.out; have := HJ31.out; have := HJ43.out; have := HK5.out; have := HJ71.out; have := HJ85.out; have := HJ96.out; have := HK9.out; have := HJ98.out; first | omega | exact Nat.le_refl _⟩, ⟨by (with_reducible repeat (first | apply Kd.R_alloc | apply Kd.R_drewN | apply Kd.R_drew)); exact Kd.R_mono (Kd.R_far (p := ⟨gb209, 3, none⟩) (Kd.R_far (p := ⟨gb209, 2, none⟩) (Kd.R_far (p := ⟨gb209, 1, none⟩) (Kd.R_far (p := ⟨gb209, 0, none⟩) (Kd.R_types HO_10.out BK209.out (by decide)) (fun _ hk => hk.2) (.int .i64 t202)) (fun _ hk => hk.2) (.int .u32 t203)) (fun _ hk => hk.2) (.string t204)) (fun _ hk => hk.2) (.bool true)) (fun _ hk => trivial)⟩, ⟨by (with_reducible repeat (first | refine blk_drewN ?_ _ | refine blk_drew ?_ | refine blk_alloc ?_ _ | refine blk_far ?_ NB168_209.out _)); exact BK168.out⟩, ⟨by (with_reducible repeat (first | refine blk_drewN ?_ _ | refine blk_drew ?_ | refine blk_alloc ?_ _ | refine blk_far ?_ NB175_209.out _)); exact BK175.out⟩, ⟨by (with_reducible repeat (first | refine blk_drewN ?_ _ | refine blk_drew ?_ | refine blk_alloc ?_ _ | refine blk_far ?_ NB181_209.out _)); exact BK181.out⟩, ⟨by (with_reducible repeat (first | refine blk_drewN ?_ _ | refine blk_drew ?_ | refine blk_alloc ?_ _ | refine blk_far ?_ NB192_209.out _)); exact BK192.out⟩, ⟨by (with_reducible repeat (first | refine blk_drewN ?_ _ | refine blk_drew ?_ | refine blk_alloc ?_ _)); refine blk_put (cs := #[.int .i64 t202, .int .u32 t203, .string t204, .bool false]) ?_ 3 _ rfl; (with_reducible repeat (first | refine blk_drewN ?_ _ | refine blk_drew ?_ | refine blk_alloc ?_ _)); refine blk_put (cs := #[.int .i64 t202, .int .u32 t203, .string (⟨#[]⟩ : ByteArray), .bool false]) ?_ 2 _ rfl; (with_reducible repeat (first | refine blk_drewN ?_ _ | refine blk_drew ?_ | refine blk_alloc ?_ _)); refine blk_put (cs := #[.int .i64 t202, .int .u32 0, .string (⟨#[]⟩ : ByteArray), .bool false]) ?_ 1 _ rfl; (with_reducible repeat (first | refine blk_drewN ?_ _ | refine blk_drew ?_ | refine blk_alloc ?_ _)); refine blk_put (cs := #[.int .i64 0, .int .u32 0, .string (⟨#[]⟩ : ByteArray), .bool false]) ?_ 0 _ rfl; (with_reducible repeat (first | refine blk_drewN ?_ _ | refine blk_drew ?_ | refine blk_alloc ?_ _)); exact BK209.out⟩, ⟨by repeat (first | (with_reducible first | exact HB.out | apply below_alloc | apply pw_below_drewN | apply below_drew1 | refine below_set ?_ GE168.out | refine below_set ?_ GE175.out | refine below_set ?_ GE181.out | refine below_set ?_ GE192.out | refine below_set ?_ GE209.out) | exact HB.out)⟩⟩
                                 replace c122 := Bool.eq_false_iff.mpr c122
                                 subst c122
                                 have H1 : (thresherlaw20_StreamWhole.j10 kj98 t182 x7_9 x8_2 t188 x7_2 x13_5 t196 x16_71 x17_96 x18_9 t206 false a0_0 a0_1 a0_2 a0_3 a0_4 a0_5 a0_6 a0_7 l0_8 x176000_9 x176001_9 x176002_9 x176003_9 t202 t203 t204 false) = some r := by rw [if_neg (show ¬ (false = true) by decide)] at H; exact H
                                 clear H; have H := H1; clear H1
                                 have H' := Aside0.mk H
                                 clear H
                                 go_wp2_with (first | ((with_reducible refine gate_callee (f := 18) rfl ?_); refine goesL_ (some 166) rfl rfl Try.func18 (by kernel_rfl) rfl #[.int .i64 t208] rfl (by (try simp only [List.map_toArray, List.map_cons, List.map_nil]); first | done | rfl | (simp only [List.length_drop, List.length_take]; rfl)) ?_; (with_reducible refine (thresherlaw20_num.calls t208 t210 _ A114.out).mono ?_); rintro e w' ⟨rfl, ⟨nd, rfl⟩⟩; refine ⟨_, rfl, ?_⟩; have hnb132 := NB168_175.out; have hnc132 := NB175_168.out; have hnb133 := NB168_181.out; have hnc133 := NB181_168.out; have hnb134 := NB168_192.out; have hnc134 := NB192_168.out; have hnb135 := NB168_209.out; have hnc135 := NB209_168.out; obtain ⟨hcz136_0, hcz136_1, hcz136_2, hcz136_3, hcz136_4, hcz136_5, hcz136_6, hcz136_7, hcz136_8, hfz136_0, hfz136_1, hfz136_2, hfz136_3, hfz136_4, hfz136_5, hfz136_6, hfz136_7, hfz136_8⟩ := blkall_9 BK168.out; have hnb137 := NB209_175.out; have hnc137 := NB175_209.out; have hnb138 := NB209_181.out; have hnc138 := NB181_209.out; have hnb139 := NB209_192.out; have hnc139 := NB192_209.out; obtain ⟨hcz140_0, hcz140_1, hcz140_2, hcz140_3, hfz140_0, hfz140_1, hfz140_2, hfz140_3⟩ := blkall_4 BK209.out))
                                 go_meet
                                 case rel => exact ⟨_, (false), (by first | rfl | (simp; done) | (simp [*]; done)), H', ⟨by have := HJ1.out; have := HK2.out; have := HJ31.out; have := HJ43.out; have := HK5.out; have := HJ71.out; have := HJ85.out; have := HJ96.out; have := HK9.out; have := HJ98.out; first | omega | exact Nat.le_refl _⟩, ⟨by (with_reducible repeat (first | apply Kd.R_alloc | apply Kd.R_drewN | apply Kd.R_drew)); exact Kd.R_mono (Kd.R_far (p := ⟨gb209, 3, none⟩) (Kd.R_far (p := ⟨gb209, 2, none⟩) (Kd.R_far (p := ⟨gb209, 1, none⟩) (Kd.R_far (p := ⟨gb209, 0, none⟩) (Kd.R_types HO_10.out BK209.out (by decide)) (fun _ hk => hk.2) (.int .i64 t202)) (fun _ hk => hk.2) (.int .u32 t203)) (fun _ hk => hk.2) (.string t204)) (fun _ hk => hk.2) (.bool false)) (fun _ hk => trivial)⟩, ⟨by (with_reducible repeat (first | refine blk_drewN ?_ _ | refine blk_drew ?_ | refine blk_alloc ?_ _ | refine blk_far ?_ NB168_209.out _)); exact BK168.out⟩, ⟨by (with_reducible repeat (first | refine blk_drewN ?_ _ | refine blk_drew ?_ | refine blk_alloc ?_ _ | refine blk_far ?_ NB175_209.out _)); exact BK175.out⟩, ⟨by (with_reducible repeat (first | refine blk_drewN ?_ _ | refine blk_drew ?_ | refine blk_alloc ?_ _ | refine blk_far ?_ NB181_209.out _)); exact BK181.out⟩, ⟨by (with_reducible repeat (first | refine blk_drewN ?_ _ | refine blk_drew ?_ | refine blk_alloc ?_ _ | refine blk_far ?_ NB192_209.out _)); exact BK192.out⟩, ⟨by (with_reducible repeat (first | refine blk_drewN ?_ _ | refine blk_drew ?_ | refine blk_alloc ?_ _)); refine blk_put (cs := #[.int .i64 t202, .int .u32 t203, .string t204, .bool false]) ?_ 3 _ rfl; (with_reducible repeat (first | refine blk_drewN ?_ _ | refine blk_drew ?_ | refine blk_alloc ?_ _)); refine blk_put (cs := #[.int .i64 t202, .int .u32 t203, .string (⟨#[]⟩ : ByteArray), .bool false]) ?_ 2 _ rfl; (with_reducible repeat (first | refine blk_drewN ?_ _ | refine blk_drew ?_ | refine blk_alloc ?_ _)); refine blk_put (cs := #[.int .i64 t202, .int .u32 0, .string (⟨#[]⟩ : ByteArray), .bool false]) ?_ 1 _ rfl; (with_reducible repeat (first | refine blk_drewN ?_ _ | refine blk_drew ?_ | refine blk_alloc ?_ _)); refine blk_put (cs := #[.int .i64 0, .int .u32 0, .string (⟨#[]⟩ : ByteArray), .bool false]) ?_ 0 _ rfl; (with_reducible repeat (first | refine blk_drewN ?_ _ | refine blk_drew ?_ | refine blk_alloc ?_ _)); exact BK209.out⟩, ⟨by repeat (first | (with_reducible first | exact HB.out | apply below_alloc | apply pw_below_drewN | apply below_drew1 | refine below_set ?_ GE168.out | refine below_set ?_ GE175.out | refine below_set ?_ GE181.out | refine below_set ?_ GE192.out | refine below_set ?_ GE209.out) | exact HB.out)⟩⟩
                               case rest =>
                                as_aux_lemma =>
                                 clear HC105
                                 (try clear c12); (try clear c13); (try clear c25); (try clear c101); (try clear c102); (try clear c102b0); (try clear c103); (try clear c103b0); (try clear c115); (try clear c115b0); (try clear c115b1); (try clear c116); (try clear c116b0); (try clear c117); (try clear c118); (try clear c119); (try clear c120); (try clear c122); (try clear c123); (try clear c124); (try clear c125); (try clear c126); (try clear c128); (try clear c129); (try clear c130); (try clear c132); (try clear c133); (try clear c134); (try clear c135); (try clear c137); (try clear c138); (try clear c139); (try clear hcz121_0); (try clear hcz121_1); (try clear hcz121_2); (try clear hcz121_3); (try clear hcz121_4); (try clear hcz121_5); (try clear hcz121_6); (try clear hcz121_7); (try clear hcz121_8); (try clear hcz127_0); (try clear hcz127_1); (try clear hcz127_2); (try clear hcz127_3); (try clear hcz127_4); (try clear hcz127_5); (try clear hcz127_6); (try clear hcz127_7); (try clear hcz127_8); (try clear hcz131_0); (try clear hcz131_1); (try clear hcz131_2); (try clear hcz131_3); (try clear hcz136_0); (try clear hcz136_1); (try clear hcz136_2); (try clear hcz136_3); (try clear hcz136_4); (try clear hcz136_5); (try clear hcz136_6); (try clear hcz136_7); (try clear hcz136_8); (try clear hcz140_0); (try clear hcz140_1); (try clear hcz140_2); (try clear hcz140_3); (try clear hfz121_0); (try clear hfz121_1); (try clear hfz121_2); (try clear hfz121_3); (try clear hfz121_4); (try clear hfz121_5); (try clear hfz121_6); (try clear hfz121_7); (try clear hfz121_8); (try clear hfz127_0); (try clear hfz127_1); (try clear hfz127_2); (try clear hfz127_3); (try clear hfz127_4); (try clear hfz127_5); (try clear hfz127_6); (try clear hfz127_7); (try clear hfz127_8); (try clear hfz131_0); (try clear hfz131_1); (try clear hfz131_2); (try clear hfz131_3); (try clear hfz136_0); (try clear hfz136_1); (try clear hfz136_2); (try clear hfz136_3); (try clear hfz136_4); (try clear hfz136_5); (try clear hfz136_6); (try clear hfz136_7); (try clear hfz136_8); (try clear hfz140_0); (try clear hfz140_1); (try clear hfz140_2); (try clear hfz140_3); (try clear hx201_0); (try clear p201); (try clear q201)
                                 obtain ⟨kq, x187_104, rfl, HA, HJ104, HO_10, BK168, BK175, BK181, BK192, BK209, HB⟩ := hcut
                                 cases kq with
                                 | zero => exact absurd HA.out (by simp [thresherlaw20_StreamWhole.j10])
                                 | succ kj104 =>
                                  have H := HA.out; clear HA
                                  simp only [thresherlaw20_StreamWhole.j10] at H
                                  by_cases c141 : x187_104 = true
                                  ·
                                   subst c141
                                   have H1 : (some false) = some r := by rw [if_pos rfl] at H; exact H
                                   clear H; have H := H1; clear H1
                                   obtain rfl := Option.some.inj H
                                   go_wp2
                                   go_ret
                                   exact ⟨by first | rfl | (simp [errW_none, errW_some] <;> rfl) | (simp [*, errW_none, errW_some] <;> rfl), by repeat (first | (with_reducible first | exact HB.out | apply below_alloc | apply pw_below_drewN | apply below_drew1 | refine below_set ?_ GE168.out | refine below_set ?_ GE175.out | refine below_set ?_ GE181.out | refine below_set ?_ GE192.out | refine below_set ?_ GE209.out) | exact HB.out)⟩
                                  replace c141 := Bool.eq_false_iff.mpr c141
                                  subst c141
                                  have H1 : (if x8_2 ≥ (l0_8.length : Int) then (thresherlaw20_StreamWhole.j11 kj104 t182 x7_9 x8_2 t188 x7_2 x13_5 t196 x16_71 x17_96 x18_9 t206 true a0_0 a0_1 a0_2 a0_3 a0_4 a0_5 a0_6 a0_7 l0_8 x176000_9 x176001_9 x176002_9 x176003_9 t202 t203 t204 t205) else (if 0 ≤ x8_2 then (if x8_2 < (l0_8.length : Int) then (thresherlaw20_StreamWhole.j11 kj104 t182 x7_9 x8_2 t188 x7_2 x13_5 t196 x16_71 x17_96 x18_9 t206 ((Int.tmod ((rd_T38 l0_8 x8_2).f2) 2) == 0) a0_0 a0_1 a0_2 a0_3 a0_4 a0_5 a0_6 a0_7 l0_8 x176000_9 x176001_9 x176002_9 x176003_9 t202 t203 t204 t205) else (none)) else (none))) = some r := by rw [if_neg (show ¬ (false = true) by decide)] at H; exact H
                                  clear H; have H := H1; clear H1; have HC142 := Aside0.mk H; clear H; have hnb143 := NB209_168.out; have hnc143 := NB168_209.out; have hnb144 := NB209_175.out; have hnc144 := NB175_209.out; have hnb145 := NB209_181.out; have hnc145 := NB181_209.out; have hnb146 := NB209_192.out; have hnc146 := NB192_209.out
                                  obtain ⟨hcz147_0, hcz147_1, hcz147_2, hcz147_3, hfz147_0, hfz147_1, hfz147_2, hfz147_3⟩ := blkall_4 BK209.out
                                  have hnb148 := NB181_168.out; have hnc148 := NB168_181.out; have hnb149 := NB181_175.out; have hnc149 := NB175_181.out; have hnb150 := NB181_192.out; have hnc150 := NB192_181.out
                                  obtain ⟨hcz151_0, hcz151_1, hcz151_2, hcz151_3, hfz151_0, hfz151_1, hfz151_2, hfz151_3⟩ := blkall_4 BK181.out
                                  go_upto_region 36 with (fail)
                                  go_cut [203] (fun v203 wc => ∃ (kq : Nat) (x203_141 : Bool), v203 = .bool x203_141 ∧ Aside0 (thresherlaw20_StreamWhole.j11 kq t182 x7_9 x8_2 t188 x7_2 x13_5 t196 x16_71 x17_96 x18_9 t206 x203_141 a0_0 a0_1 a0_2 a0_3 a0_4 a0_5 a0_6 a0_7 l0_8 x176000_9 x176001_9 x176002_9 x176003_9 t202 t203 t204 t205 = some r) ∧ Aside0 (kq ≤ kj104) ∧ Aside0 (Kd.R (Kd.int .i64) 3 wc w.heap.size (fun _ => True) (.slice (some ad194) t188.length co73) t188) ∧ Aside0 (wc.heap[gb168]? = some (.cells #[.string a0_0, .int .i64 a0_1, .int .i64 a0_2, .int .i64 a0_3, .int .i64 a0_4, .int .u32 a0_5, .string a0_6, .bool a0_7, (.slice A0_8 l0_8.length c0_8)] 35 (0, 0))) ∧ Aside0 (wc.heap[gb175]? = some (.cells #[.string x176000_9, .int .i64 x176001_9, .int .i64 x176002_9, .int .i64 x176003_9] 30 (0, 0))) ∧ Aside0 (wc.heap[gb181]? = some (.cells #[.int .i64 t202, .int .u32 t203, .string t204, .bool t205] 32 (0, 0))) ∧ Aside0 (wc.heap[gb192]? = some (.cells #[.string t184, .int .i64 t185, .int .i64 t186, .int .i64 t187] 30 (0, 0))) ∧ Aside0 (wc.heap[gb209]? = some (.cells #[.int .i64 t202, .int .u32 t203, .string t204, .bool t205] 32 (0, 0))) ∧ Aside0 (Below w.heap.size w wc))
                                  case first =>
                                   as_aux_lemma =>
                                    have H := HC142.out; clear HC142
                                    by_cases c152 : x8_2 ≥ (l0_8.length : Int)
                                    ·
                                     rw [if_pos c152] at H
                                     have c152b0 : decide ((l0_8.length : Int) ≤ x8_2) = true := decide_eq_true c152
                                     clear c152
                                     (first | rw [c152b0] | (simp only [i64_w, i32_w]; rw [c152b0]) | skip)
                                     have H' := Aside0.mk H
                                     clear H; have hnb153 := NB168_175.out; have hnc153 := NB175_168.out; have hnb154 := NB168_181.out; have hnc154 := NB181_168.out; have hnb155 := NB168_192.out; have hnc155 := NB192_168.out; have hnb156 := NB168_209.out; have hnc156 := NB209_168.out
                                     obtain ⟨hcz157_0, hcz157_1, hcz157_2, hcz157_3, hcz157_4, hcz157_5, hcz157_6, hcz157_7, hcz157_8, hfz157_0, hfz157_1, hfz157_2, hfz157_3, hfz157_4, hfz157_5, hfz157_6, hfz157_7, hfz157_8⟩ := blkall_9 BK168.out
                                     go_wp2
                                     go_meet
                                     case rel => exact ⟨_, (true), (by first | rfl | (simp; done) | (simp [*]; done)), H', ⟨by have := HJ1.out; have := HK2.out; have := HJ31.out; have := HJ43.out; have := HK5.out; have := HJ71.out; have := HJ85.out; have := HJ96.out; have := HK9.out; have := HJ98.out; have := HJ104.out; first | omega | exact Nat.le_refl _⟩, ⟨by (with_reducible repeat (first | apply Kd.R_alloc | apply Kd.R_drewN | apply Kd.R_drew)); exact Kd.R_mono (Kd.R_far (p := ⟨gb181, 3, none⟩) (Kd.R_far (p := ⟨gb181, 2, none⟩) (Kd.R_far (p := ⟨gb181, 1, none⟩) (Kd.R_far (p := ⟨gb181, 0, none⟩) (Kd.R_types HO_10.out BK181.out (by decide)) (fun _ hk => hk.2) (.int .i64 t202)) (fun _ hk => hk.2) (.int .u32 t203)) (fun _ hk => hk.2) (.string t204)) (fun _ hk => hk.2) (.bool t205)) (fun _ hk => trivial)⟩, ⟨by (with_reducible repeat (first | refine blk_drewN ?_ _ | refine blk_drew ?_ | refine blk_alloc ?_ _ | refine blk_far ?_ NB168_181.out _)); exact BK168.out⟩, ⟨by (with_reducible repeat (first | refine blk_drewN ?_ _ | refine blk_drew ?_ | refine blk_alloc ?_ _ | refine blk_far ?_ NB175_181.out _)); exact BK175.out⟩, ⟨by (with_reducible repeat (first | refine blk_drewN ?_ _ | refine blk_drew ?_ | refine blk_alloc ?_ _)); refine blk_put (cs := #[.int .i64 t202, .int .u32 t203, .string t204, .bool x182003_9]) ?_ 3 _ rfl; (with_reducible repeat (first | refine blk_drewN ?_ _ | refine blk_drew ?_ | refine blk_alloc ?_ _)); refine blk_put (cs := #[.int .i64 t202, .int .u32 t203, .string x182002_9, .bool x182003_9]) ?_ 2 _ rfl; (with_reducible repeat (first | refine blk_drewN ?_ _ | refine blk_drew ?_ | refine blk_alloc ?_ _)); refine blk_put (cs := #[.int .i64 t202, .int .u32 x182001_9, .string x182002_9, .bool x182003_9]) ?_ 1 _ rfl; (with_reducible repeat (first | refine blk_drewN ?_ _ | refine blk_drew ?_ | refine blk_alloc ?_ _)); refine blk_put (cs := #[.int .i64 x182000_9, .int .u32 x182001_9, .string x182002_9, .bool x182003_9]) ?_ 0 _ rfl; (with_reducible repeat (first | refine blk_drewN ?_ _ | refine blk_drew ?_ | refine blk_alloc ?_ _)); exact BK181.out⟩, ⟨by (with_reducible repeat (first | refine blk_drewN ?_ _ | refine blk_drew ?_ | refine blk_alloc ?_ _ | refine blk_far ?_ NB192_181.out _)); exact BK192.out⟩, ⟨by (with_reducible repeat (first | refine blk_drewN ?_ _ | refine blk_drew ?_ | refine blk_alloc ?_ _ | refine blk_far ?_ NB209_181.out _)); exact BK209.out⟩, ⟨by repeat (first | (with_reducible first | exact HB.out | apply below_alloc | apply pw_below_drewN | apply below_drew1 | refine below_set ?_ GE168.out | refine below_set ?_ GE175.out | refine below_set ?_ GE181.out | refine below_set ?_ GE192.out | refine below_set ?_ GE209.out) | exact HB.out)⟩⟩
                                    rw [if_neg c152] at H
                                    have c152b0 : decide ((l0_8.length : Int) ≤ x8_2) = false := decide_eq_false c152
                                    clear c152
                                    (first | rw [c152b0] | (simp only [i64_w, i32_w]; rw [c152b0]) | skip)
                                    by_cases c158 : 0 ≤ x8_2
                                    rotate_left
                                    ·
                                     rw [if_neg c158] at H
                                     exact absurd H (by simp)
                                    rw [if_pos c158] at H
                                    have c158b0 : decide (0 ≤ x8_2) = true := decide_eq_true c158
                                    clear c158
                                    by_cases c159 : x8_2 < (l0_8.length : Int)
                                    rotate_left
                                    ·
                                     rw [if_neg c159] at H
                                     exact absurd H (by simp)
                                    rw [if_pos c159] at H
                                    have c159b0 : decide (x8_2 < (l0_8.length : Int)) = true := decide_eq_true c159
                                    clear c159
                                    have H' := Aside0.mk H
                                    clear H; have hnb160 := NB168_175.out; have hnc160 := NB175_168.out; have hnb161 := NB168_181.out; have hnc161 := NB181_168.out; have hnb162 := NB168_192.out; have hnc162 := NB192_168.out; have hnb163 := NB168_209.out; have hnc163 := NB209_168.out
                                    obtain ⟨hcz164_0, hcz164_1, hcz164_2, hcz164_3, hcz164_4, hcz164_5, hcz164_6, hcz164_7, hcz164_8, hfz164_0, hfz164_1, hfz164_2, hfz164_3, hfz164_4, hfz164_5, hfz164_6, hfz164_7, hfz164_8⟩ := blkall_9 BK168.out
                                    have p211 : 0 ≤ (x8_2 : Int) := of_decide_eq_true (by first | (with_reducible assumption) | assumption)
                                    have q211 : x8_2 < (l0_8.length : Int) := of_decide_eq_true (by first | (with_reducible assumption) | assumption)
                                    obtain ⟨ad211, e211, hx211_0, hx211_1, hx211_2, hx211_3, hx211_4, hx211_5⟩ := at_T38 HR0_8.out x8_2 p211 q211
                                    cases e211
                                    have hn211_0 : ad211.block ≠ gb181 := Nat.ne_of_lt (Nat.lt_of_lt_of_le (by have := World.block_lt_of_cell? _ _ hx211_0; first | rwa [add_block] at this | exact this) GW181.out)
                                    have hn211_1 : ad211.block ≠ gb181 := Nat.ne_of_lt (Nat.lt_of_lt_of_le (by have := World.block_lt_of_cell? _ _ hx211_0; first | rwa [add_block] at this | exact this) GW181.out)
                                    have hn211_2 : ad211.block ≠ gb181 := Nat.ne_of_lt (Nat.lt_of_lt_of_le (by have := World.block_lt_of_cell? _ _ hx211_0; first | rwa [add_block] at this | exact this) GW181.out)
                                    have hn211_3 : ad211.block ≠ gb181 := Nat.ne_of_lt (Nat.lt_of_lt_of_le (by have := World.block_lt_of_cell? _ _ hx211_0; first | rwa [add_block] at this | exact this) GW181.out)
                                    replace hx211_0 := (HB.out.cell (World.block_lt_of_cell? w _ hx211_0)).trans hx211_0
                                    replace hx211_1 := (HB.out.cell (World.block_lt_of_cell? w _ hx211_1)).trans hx211_1
                                    replace hx211_2 := (HB.out.cell (World.block_lt_of_cell? w _ hx211_2)).trans hx211_2
                                    replace hx211_3 := (HB.out.cell (World.block_lt_of_cell? w _ hx211_3)).trans hx211_3
                                    replace hx211_4 := (HB.out.cell (World.block_lt_of_cell? w _ hx211_4)).trans hx211_4
                                    replace hx211_5 := (HB.out.cell (World.block_lt_of_cell? w _ hx211_5)).trans hx211_5
                                    replace hx211_0 := (cell_far (p := ⟨gb181, 0, none⟩) (by first | (rw [add_block]; exact hn211_0) | (show (Addr.add _ _).block ≠ _; rw [add_block]; exact hn211_0) | exact hn211_0) (.int .i64 t202)).trans hx211_0
                                    replace hx211_1 := (cell_far (p := ⟨gb181, 0, none⟩) (by first | (rw [add_block]; exact hn211_0) | (show (Addr.add _ _).block ≠ _; rw [add_block]; exact hn211_0) | exact hn211_0) (.int .i64 t202)).trans hx211_1
                                    replace hx211_2 := (cell_far (p := ⟨gb181, 0, none⟩) (by first | (rw [add_block]; exact hn211_0) | (show (Addr.add _ _).block ≠ _; rw [add_block]; exact hn211_0) | exact hn211_0) (.int .i64 t202)).trans hx211_2
                                    replace hx211_3 := (cell_far (p := ⟨gb181, 0, none⟩) (by first | (rw [add_block]; exact hn211_0) | (show (Addr.add _ _).block ≠ _; rw [add_block]; exact hn211_0) | exact hn211_0) (.int .i64 t202)).trans hx211_3
                                    replace hx211_4 := (cell_far (p := ⟨gb181, 0, none⟩) (by first | (rw [add_block]; exact hn211_0) | (show (Addr.add _ _).block ≠ _; rw [add_block]; exact hn211_0) | exact hn211_0) (.int .i64 t202)).trans hx211_4
                                    replace hx211_5 := (cell_far (p := ⟨gb181, 0, none⟩) (by first | (rw [add_block]; exact hn211_0) | (show (Addr.add _ _).block ≠ _; rw [add_block]; exact hn211_0) | exact hn211_0) (.int .i64 t202)).trans hx211_5
                                    replace hx211_0 := (cell_far (p := ⟨gb181, 1, none⟩) (by first | (rw [add_block]; exact hn211_1) | (show (Addr.add _ _).block ≠ _; rw [add_block]; exact hn211_1) | exact hn211_1) (.int .u32 t203)).trans hx211_0
                                    replace hx211_1 := (cell_far (p := ⟨gb181, 1, none⟩) (by first | (rw [add_block]; exact hn211_1) | (show (Addr.add _ _).block ≠ _; rw [add_block]; exact hn211_1) | exact hn211_1) (.int .u32 t203)).trans hx211_1
                                    replace hx211_2 := (cell_far (p := ⟨gb181, 1, none⟩) (by first | (rw [add_block]; exact hn211_1) | (show (Addr.add _ _).block ≠ _; rw [add_block]; exact hn211_1) | exact hn211_1) (.int .u32 t203)).trans hx211_2
                                    replace hx211_3 := (cell_far (p := ⟨gb181, 1, none⟩) (by first | (rw [add_block]; exact hn211_1) | (show (Addr.add _ _).block ≠ _; rw [add_block]; exact hn211_1) | exact hn211_1) (.int .u32 t203)).trans hx211_3
                                    replace hx211_4 := (cell_far (p := ⟨gb181, 1, none⟩) (by first | (rw [add_block]; exact hn211_1) | (show (Addr.add _ _).block ≠ _; rw [add_block]; exact hn211_1) | exact hn211_1) (.int .u32 t203)).trans hx211_4
                                    replace hx211_5 := (cell_far (p := ⟨gb181, 1, none⟩) (by first | (rw [add_block]; exact hn211_1) | (show (Addr.add _ _).block ≠ _; rw [add_block]; exact hn211_1) | exact hn211_1) (.int .u32 t203)).trans hx211_5
                                    replace hx211_0 := (cell_far (p := ⟨gb181, 2, none⟩) (by first | (rw [add_block]; exact hn211_2) | (show (Addr.add _ _).block ≠ _; rw [add_block]; exact hn211_2) | exact hn211_2) (.string t204)).trans hx211_0
                                    replace hx211_1 := (cell_far (p := ⟨gb181, 2, none⟩) (by first | (rw [add_block]; exact hn211_2) | (show (Addr.add _ _).block ≠ _; rw [add_block]; exact hn211_2) | exact hn211_2) (.string t204)).trans hx211_1
                                    replace hx211_2 := (cell_far (p := ⟨gb181, 2, none⟩) (by first | (rw [add_block]; exact hn211_2) | (show (Addr.add _ _).block ≠ _; rw [add_block]; exact hn211_2) | exact hn211_2) (.string t204)).trans hx211_2
                                    replace hx211_3 := (cell_far (p := ⟨gb181, 2, none⟩) (by first | (rw [add_block]; exact hn211_2) | (show (Addr.add _ _).block ≠ _; rw [add_block]; exact hn211_2) | exact hn211_2) (.string t204)).trans hx211_3
                                    replace hx211_4 := (cell_far (p := ⟨gb181, 2, none⟩) (by first | (rw [add_block]; exact hn211_2) | (show (Addr.add _ _).block ≠ _; rw [add_block]; exact hn211_2) | exact hn211_2) (.string t204)).trans hx211_4
                                    replace hx211_5 := (cell_far (p := ⟨gb181, 2, none⟩) (by first | (rw [add_block]; exact hn211_2) | (show (Addr.add _ _).block ≠ _; rw [add_block]; exact hn211_2) | exact hn211_2) (.string t204)).trans hx211_5
                                    replace hx211_0 := (cell_far (p := ⟨gb181, 3, none⟩) (by first | (rw [add_block]; exact hn211_3) | (show (Addr.add _ _).block ≠ _; rw [add_block]; exact hn211_3) | exact hn211_3) (.bool t205)).trans hx211_0
                                    replace hx211_1 := (cell_far (p := ⟨gb181, 3, none⟩) (by first | (rw [add_block]; exact hn211_3) | (show (Addr.add _ _).block ≠ _; rw [add_block]; exact hn211_3) | exact hn211_3) (.bool t205)).trans hx211_1
                                    replace hx211_2 := (cell_far (p := ⟨gb181, 3, none⟩) (by first | (rw [add_block]; exact hn211_3) | (show (Addr.add _ _).block ≠ _; rw [add_block]; exact hn211_3) | exact hn211_3) (.bool t205)).trans hx211_2
                                    replace hx211_3 := (cell_far (p := ⟨gb181, 3, none⟩) (by first | (rw [add_block]; exact hn211_3) | (show (Addr.add _ _).block ≠ _; rw [add_block]; exact hn211_3) | exact hn211_3) (.bool t205)).trans hx211_3
                                    replace hx211_4 := (cell_far (p := ⟨gb181, 3, none⟩) (by first | (rw [add_block]; exact hn211_3) | (show (Addr.add _ _).block ≠ _; rw [add_block]; exact hn211_3) | exact hn211_3) (.bool t205)).trans hx211_4
                                    replace hx211_5 := (cell_far (p := ⟨gb181, 3, none⟩) (by first | (rw [add_block]; exact hn211_3) | (show (Addr.add _ _).block ≠ _; rw [add_block]; exact hn211_3) | exact hn211_3) (.bool t205)).trans hx211_5
                                    clear hn211_0; clear hn211_1; clear hn211_2; clear hn211_3
                                    replace p211 := eq_true p211
                                    replace q211 := eq_true q211
                                    go_wp2
                                    go_meet
                                    case rel => exact ⟨_, (((Int.tmod ((rd_T38 l0_8 x8_2).f2) 2) == 0)), (by first | rfl | (simp; done) | (simp [*]; done)), H', ⟨by have := HJ1.out; have := HK2.out; have := HJ31.out; have := HJ43.out; have := HK5.out; have := HJ71.out; have := HJ85.out; have := HJ96.out; have := HK9.out; have := HJ98.out; have := HJ104.out; first | omega | exact Nat.le_refl _⟩, ⟨by (with_reducible repeat (first | apply Kd.R_alloc | apply Kd.R_drewN | apply Kd.R_drew)); exact Kd.R_mono (Kd.R_far (p := ⟨gb181, 3, none⟩) (Kd.R_far (p := ⟨gb181, 2, none⟩) (Kd.R_far (p := ⟨gb181, 1, none⟩) (Kd.R_far (p := ⟨gb181, 0, none⟩) (Kd.R_types HO_10.out BK181.out (by decide)) (fun _ hk => hk.2) (.int .i64 t202)) (fun _ hk => hk.2) (.int .u32 t203)) (fun _ hk => hk.2) (.string t204)) (fun _ hk => hk.2) (.bool t205)) (fun _ hk => trivial)⟩, ⟨by (with_reducible repeat (first | refine blk_drewN ?_ _ | refine blk_drew ?_ | refine blk_alloc ?_ _ | refine blk_far ?_ NB168_181.out _)); exact BK168.out⟩, ⟨by (with_reducible repeat (first | refine blk_drewN ?_ _ | refine blk_drew ?_ | refine blk_alloc ?_ _ | refine blk_far ?_ NB175_181.out _)); exact BK175.out⟩, ⟨by (with_reducible repeat (first | refine blk_drewN ?_ _ | refine blk_drew ?_ | refine blk_alloc ?_ _)); refine blk_put (cs := #[.int .i64 t202, .int .u32 t203, .string t204, .bool x182003_9]) ?_ 3 _ rfl; (with_reducible repeat (first | refine blk_drewN ?_ _ | refine blk_drew ?_ | refine blk_alloc ?_ _)); refine blk_put (cs := #[.int .i64 t202, .int .u32 t203, .string x182002_9, .bool x182003_9]) ?_ 2 _ rfl; (with_reducible repeat (first | refine blk_drewN ?_ _ | refine blk_drew ?_ | refine blk_alloc ?_ _)); refine blk_put (cs := #[.int .i64 t202, .int .u32 x182001_9, .string x182002_9, .bool x182003_9]) ?_ 1 _ rfl; (with_reducible repeat (first | refine blk_drewN ?_ _ | refine blk_drew ?_ | refine blk_alloc ?_ _)); refine blk_put (cs := #[.int .i64 x182000_9, .int .u32 x182001_9, .string x182002_9, .bool x182003_9]) ?_ 0 _ rfl; (with_reducible repeat (first | refine blk_drewN ?_ _ | refine blk_drew ?_ | refine blk_alloc ?_ _)); exact BK181.out⟩, ⟨by (with_reducible repeat (first | refine blk_drewN ?_ _ | refine blk_drew ?_ | refine blk_alloc ?_ _ | refine blk_far ?_ NB192_181.out _)); exact BK192.out⟩, ⟨by (with_reducible repeat (first | refine blk_drewN ?_ _ | refine blk_drew ?_ | refine blk_alloc ?_ _ | refine blk_far ?_ NB209_181.out _)); exact BK209.out⟩, ⟨by repeat (first | (with_reducible first | exact HB.out | apply below_alloc | apply pw_below_drewN | apply below_drew1 | refine below_set ?_ GE168.out | refine below_set ?_ GE175.out | refine below_set ?_ GE181.out | refine below_set ?_ GE192.out | refine below_set ?_ GE209.out) | exact HB.out)⟩⟩
                                  case rest =>
                                   as_aux_lemma =>
                                    clear HC142
                                    (try clear p21); (try clear q21); (try clear hx21); (try clear c141); (try clear c143); (try clear c144); (try clear c145); (try clear c146); (try clear c148); (try clear c149); (try clear c150); (try clear c152); (try clear c152b0); (try clear c153); (try clear c154); (try clear c155); (try clear c156); (try clear c158); (try clear c158b0); (try clear c159); (try clear c159b0); (try clear c160); (try clear c161); (try clear c162); (try clear c163); (try clear hcz147_0); (try clear hcz147_1); (try clear hcz147_2); (try clear hcz147_3); (try clear hcz151_0); (try clear hcz151_1); (try clear hcz151_2); (try clear hcz151_3); (try clear hcz157_0); (try clear hcz157_1); (try clear hcz157_2); (try clear hcz157_3); (try clear hcz157_4); (try clear hcz157_5); (try clear hcz157_6); (try clear hcz157_7); (try clear hcz157_8); (try clear hcz164_0); (try clear hcz164_1); (try clear hcz164_2); (try clear hcz164_3); (try clear hcz164_4); (try clear hcz164_5); (try clear hcz164_6); (try clear hcz164_7); (try clear hcz164_8); (try clear hfz147_0); (try clear hfz147_1); (try clear hfz147_2); (try clear hfz147_3); (try clear hfz151_0); (try clear hfz151_1); (try clear hfz151_2); (try clear hfz151_3); (try clear hfz157_0); (try clear hfz157_1); (try clear hfz157_2); (try clear hfz157_3); (try clear hfz157_4); (try clear hfz157_5); (try clear hfz157_6); (try clear hfz157_7); (try clear hfz157_8); (try clear hfz164_0); (try clear hfz164_1); (try clear hfz164_2); (try clear hfz164_3); (try clear hfz164_4); (try clear hfz164_5); (try clear hfz164_6); (try clear hfz164_7); (try clear hfz164_8); (try clear hx211_0); (try clear hx211_1); (try clear hx211_2); (try clear hx211_3); (try clear hx211_4); (try clear hx211_5); (try clear p211); (try clear q211)
                                    obtain ⟨kq, x203_141, rfl, HA, HJ141, HO_10, BK168, BK175, BK181, BK192, BK209, HB⟩ := hcut
                                    cases kq with
                                    | zero => exact absurd HA.out (by simp [thresherlaw20_StreamWhole.j11])
                                    | succ kj141 =>
                                     have H := HA.out; clear HA
                                     simp only [thresherlaw20_StreamWhole.j11] at H
                                     by_cases c165 : x203_141 = true
                                     rotate_left
                                     ·
                                      replace c165 := Bool.eq_false_iff.mpr c165
                                      subst c165
                                      have H1 : (thresherlaw20_StreamWhole.l2 kj141 t182 x7_9 x8_2 t188 x7_2 x13_5 t196 x16_71 x17_96 (wrap64 (x18_9 + 1)) a0_0 a0_1 a0_2 a0_3 a0_4 a0_5 a0_6 a0_7 l0_8 x176000_9 x176001_9 x176002_9 x176003_9 t202 t203 t204 t205) = some r := by rw [if_neg (show ¬ (false = true) by decide)] at H; exact H
                                      clear H; have H := H1; clear H1
                                      have H' := Aside0.mk H
                                      clear H
                                      go_wp2
                                      go_roundg kj141
                                      case measure => have := HJ1.out; have := HK2.out; have := HJ31.out; have := HJ43.out; have := HK5.out; have := HJ71.out; have := HJ85.out; have := HJ96.out; have := HK9.out; have := HJ98.out; have := HJ104.out; have := HJ141.out; omega
                                      case rel => exact ⟨(x7_9), (wrap64 (x18_9 + 1)), (x176000_9), (x176001_9), (x176002_9), (x176003_9), (t202), (t203), (t204), (t205), (by first | rfl | (simp; done) | (simp [*]; done)), (by first | rfl | (simp; done) | (simp [*]; done)), H', ⟨by have := HJ1.out; have := HK2.out; have := HJ31.out; have := HJ43.out; have := HK5.out; have := HJ71.out; have := HJ85.out; have := HJ96.out; have := HK9.out; have := HJ98.out; have := HJ104.out; have := HJ141.out; omega⟩, ⟨by (with_reducible repeat (first | apply Kd.R_alloc | apply Kd.R_drewN | apply Kd.R_drew)); exact HO_10.out⟩, ⟨by (with_reducible repeat (first | refine blk_drewN ?_ _ | refine blk_drew ?_ | refine blk_alloc ?_ _)); exact BK168.out⟩, ⟨by (with_reducible repeat (first | refine blk_drewN ?_ _ | refine blk_drew ?_ | refine blk_alloc ?_ _)); exact BK175.out⟩, ⟨by (with_reducible repeat (first | refine blk_drewN ?_ _ | refine blk_drew ?_ | refine blk_alloc ?_ _)); exact BK181.out⟩, ⟨by (with_reducible repeat (first | refine blk_drewN ?_ _ | refine blk_drew ?_ | refine blk_alloc ?_ _)); exact BK192.out⟩, ⟨by repeat (first | (with_reducible first | exact HB.out | apply below_alloc | apply pw_below_drewN | apply below_drew1 | refine below_set ?_ GE168.out | refine below_set ?_ GE175.out | refine below_set ?_ GE181.out | refine below_set ?_ GE192.out | refine below_set ?_ GE209.out) | exact HB.out)⟩⟩
                                     subst c165
                                     have H1 : ((stream_Ack.f x176000_9 x176001_9 x176002_9 x176003_9 t206).bind fun bt212 => ((thresherlaw20_num.f bt212.2.2.2.2).bind fun t218 => (if t218 = 0 then (thresherlaw20_StreamWhole.l2 kj141 t182 (mx x7_9 t206) x8_2 t188 x7_2 x13_5 t196 x16_71 x17_96 (wrap64 (x18_9 + 1)) a0_0 a0_1 a0_2 a0_3 a0_4 a0_5 a0_6 a0_7 l0_8 bt212.1 bt212.2.1 bt212.2.2.1 bt212.2.2.2.1 t202 t203 t204 t205) else (some false)))) = some r := by rw [if_pos rfl] at H; exact H
                                     clear H; have H := H1; clear H1
                                     replace H := Option.bind_eq_some_iff.mp H
                                     obtain ⟨⟨t212, t213, t214, t215, t216⟩, A1660, H⟩ := H
                                     replace H : ((thresherlaw20_num.f t216).bind fun t218 => (if t218 = 0 then (thresherlaw20_StreamWhole.l2 kj141 t182 (mx x7_9 t206) x8_2 t188 x7_2 x13_5 t196 x16_71 x17_96 (wrap64 (x18_9 + 1)) a0_0 a0_1 a0_2 a0_3 a0_4 a0_5 a0_6 a0_7 l0_8 t212 t213 t214 t215 t202 t203 t204 t205) else (some false))) = some r := H
                                     have A166 := Aside0.mk A1660; clear A1660
                                     replace H := Option.bind_eq_some_iff.mp H
                                     obtain ⟨t218, A1670, H⟩ := H
                                     replace H : (if t218 = 0 then (thresherlaw20_StreamWhole.l2 kj141 t182 (mx x7_9 t206) x8_2 t188 x7_2 x13_5 t196 x16_71 x17_96 (wrap64 (x18_9 + 1)) a0_0 a0_1 a0_2 a0_3 a0_4 a0_5 a0_6 a0_7 l0_8 t212 t213 t214 t215 t202 t203 t204 t205) else (some false)) = some r := H
                                     have A167 := Aside0.mk A1670; clear A1670
                                     by_cases c168 : t218 = 0
                                     rotate_left
                                     ·
                                      rw [if_neg c168] at H
                                      have c168b0 : (t218 == 0) = false := beq_eq_false_iff_ne.mpr c168
                                      have c168b1 : (t218 != 0) = true := bne_iff_ne.mpr c168
                                      obtain rfl := Option.some.inj H
                                      have hnb184 := NB175_168.out; have hnc184 := NB168_175.out; have hnb185 := NB175_181.out; have hnc185 := NB181_175.out; have hnb186 := NB175_192.out; have hnc186 := NB192_175.out; have hnb187 := NB175_209.out; have hnc187 := NB209_175.out
                                      obtain ⟨hcz188_0, hcz188_1, hcz188_2, hcz188_3, hfz188_0, hfz188_1, hfz188_2, hfz188_3⟩ := blkall_4 BK175.out
                                      go_wp2_with (first | ((with_reducible refine gate_callee (f := 20) rfl ?_); refine goesL_ (some 207) rfl rfl Try.func20 (by kernel_rfl) rfl #[.agg #[.string x176000_9, .int .i64 x176001_9, .int .i64 x176002_9, .int .i64 x176003_9], .int .i64 t206] rfl (by (try simp only [List.map_toArray, List.map_cons, List.map_nil]); first | done | rfl | (simp only [List.length_drop, List.length_take]; rfl)) ?_; (with_reducible refine (stream_Ack.calls x176000_9 x176001_9 x176002_9 x176003_9 t206 t212 t213 t214 t215 t216 _ A166.out).mono ?_); rintro e w189 ⟨rfl, hb⟩; refine ⟨_, rfl, ?_⟩; have n0_ := Aside0.mk (Kd.R_below (by (with_reducible repeat (first | apply Kd.R_alloc | apply Kd.R_drewN | apply Kd.R_drew)); exact HO_10.out) hb); have n1_ := Aside0.mk (blk_below (g := gb168) (o := .cells #[.string a0_0, .int .i64 a0_1, .int .i64 a0_2, .int .i64 a0_3, .int .i64 a0_4, .int .u32 a0_5, .string a0_6, .bool a0_7, .slice A0_8 l0_8.length c0_8] 35 (0, 0)) (by (with_reducible repeat (first | refine blk_drewN ?_ _ | refine blk_drew ?_ | refine blk_alloc ?_ _)); exact BK168.out) hb); have n2_ := Aside0.mk (blk_below (g := gb175) (o := .cells #[.string x176000_9, .int .i64 x176001_9, .int .i64 x176002_9, .int .i64 x176003_9] 30 (0, 0)) (by (with_reducible repeat (first | refine blk_drewN ?_ _ | refine blk_drew ?_ | refine blk_alloc ?_ _)); exact BK175.out) hb); have n3_ := Aside0.mk (blk_below (g := gb181) (o := .cells #[.int .i64 t202, .int .u32 t203, .string t204, .bool t205] 32 (0, 0)) (by (with_reducible repeat (first | refine blk_drewN ?_ _ | refine blk_drew ?_ | refine blk_alloc ?_ _)); exact BK181.out) hb); have n4_ := Aside0.mk (blk_below (g := gb192) (o := .cells #[.string t184, .int .i64 t185, .int .i64 t186, .int .i64 t187] 30 (0, 0)) (by (with_reducible repeat (first | refine blk_drewN ?_ _ | refine blk_drew ?_ | refine blk_alloc ?_ _)); exact BK192.out) hb); have n5_ := Aside0.mk (blk_below (g := gb209) (o := .cells #[.int .i64 t202, .int .u32 t203, .string t204, .bool t205] 32 (0, 0)) (by (with_reducible repeat (first | refine blk_drewN ?_ _ | refine blk_drew ?_ | refine blk_alloc ?_ _)); exact BK209.out) hb); have n6_ := Aside0.mk (below_step (by repeat (first | (with_reducible first | exact HB.out | apply below_alloc | apply pw_below_drewN | apply below_drew1 | refine below_set ?_ GE168.out | refine below_set ?_ GE175.out | refine below_set ?_ GE181.out | refine below_set ?_ GE192.out | refine below_set ?_ GE209.out) | exact HB.out)) hb); clear HO_10; clear BK168; clear BK175; clear BK181; clear BK192; clear BK209; clear HB; have HO_10 := n0_; have BK168 := n1_; have BK175 := n2_; have BK181 := n3_; have BK192 := n4_; have BK209 := n5_; have HB := n6_; clear n0_ n1_ n2_ n3_ n4_ n5_ n6_; (try clear hb); (try clear hb2); (try clear hk); (try clear hi)) | ((with_reducible refine gate_dst (N := 23) rfl ?_); (try (refine gate_guard (by rfl) ?_; dsimp only)); refine box_event ?hg (N := 23) ?hd (cs := #[.string (⟨#[]⟩ : ByteArray), .int .i64 0, .int .i64 0, .int .i64 0]) (t := 30) ?hr ?_; (case hd => rfl); (case hg => rfl); (case hr => first | (go_simp; done) | (go_simp; rfl)); intro gb217 hg w190 hbox hb; have n0_ := Aside0.mk (Kd.R_below (by (with_reducible repeat (first | apply Kd.R_alloc | apply Kd.R_drewN | apply Kd.R_drew)); exact HO_10.out) hb); have n1_ := Aside0.mk (blk_below (g := gb168) (o := .cells #[.string a0_0, .int .i64 a0_1, .int .i64 a0_2, .int .i64 a0_3, .int .i64 a0_4, .int .u32 a0_5, .string a0_6, .bool a0_7, .slice A0_8 l0_8.length c0_8] 35 (0, 0)) (by (with_reducible repeat (first | refine blk_drewN ?_ _ | refine blk_drew ?_ | refine blk_alloc ?_ _)); exact BK168.out) hb); have n2_ := Aside0.mk (blk_below (g := gb175) (o := .cells #[.string x176000_9, .int .i64 x176001_9, .int .i64 x176002_9, .int .i64 x176003_9] 30 (0, 0)) (by (with_reducible repeat (first | refine blk_drewN ?_ _ | refine blk_drew ?_ | refine blk_alloc ?_ _)); exact BK175.out) hb); have n3_ := Aside0.mk (blk_below (g := gb181) (o := .cells #[.int .i64 t202, .int .u32 t203, .string t204, .bool t205] 32 (0, 0)) (by (with_reducible repeat (first | refine blk_drewN ?_ _ | refine blk_drew ?_ | refine blk_alloc ?_ _)); exact BK181.out) hb); have n4_ := Aside0.mk (blk_below (g := gb192) (o := .cells #[.string t184, .int .i64 t185, .int .i64 t186, .int .i64 t187] 30 (0, 0)) (by (with_reducible repeat (first | refine blk_drewN ?_ _ | refine blk_drew ?_ | refine blk_alloc ?_ _)); exact BK192.out) hb); have n5_ := Aside0.mk (blk_below (g := gb209) (o := .cells #[.int .i64 t202, .int .u32 t203, .string t204, .bool t205] 32 (0, 0)) (by (with_reducible repeat (first | refine blk_drewN ?_ _ | refine blk_drew ?_ | refine blk_alloc ?_ _)); exact BK209.out) hb); have n6_ := Aside0.mk (below_step (by repeat (first | (with_reducible first | exact HB.out | apply below_alloc | apply pw_below_drewN | apply below_drew1 | refine below_set ?_ GE168.out | refine below_set ?_ GE175.out | refine below_set ?_ GE181.out | refine below_set ?_ GE192.out | refine below_set ?_ GE209.out) | exact HB.out)) hb); have n7_ := Aside0.mk (hbox); have n8_ := Aside0.mk ((by rw [hg]; exact (below_size (by repeat (first | (with_reducible first | exact HB.out | apply below_alloc | apply pw_below_drewN | apply below_drew1 | refine below_set ?_ GE168.out | refine below_set ?_ GE175.out | refine below_set ?_ GE181.out | refine below_set ?_ GE192.out | refine below_set ?_ GE209.out) | exact HB.out))) : w.heap.size ≤ gb217)); have n9_ := Aside0.mk ((by rw [hg]; exact (below_size (by repeat (first | (with_reducible first | exact HB.out | apply below_alloc | apply pw_below_drewN | apply below_drew1 | refine below_set ?_ GE168.out | refine below_set ?_ GE175.out | refine below_set ?_ GE181.out | refine below_set ?_ GE192.out | refine below_set ?_ GE209.out) | exact HB.out))) : w.heap.size ≤ gb217)); have n10_ := Aside0.mk ((by rw [hg]; exact Nat.ne_of_lt (blk_lt (g := gb168) (o := .cells #[.string a0_0, .int .i64 a0_1, .int .i64 a0_2, .int .i64 a0_3, .int .i64 a0_4, .int .u32 a0_5, .string a0_6, .bool a0_7, .slice A0_8 l0_8.length c0_8] 35 (0, 0)) (by (with_reducible repeat (first | refine blk_drewN ?_ _ | refine blk_drew ?_ | refine blk_alloc ?_ _)); exact BK168.out)) : gb168 ≠ gb217)); have n11_ := Aside0.mk ((by rw [hg]; exact Nat.ne_of_gt (blk_lt (g := gb168) (o := .cells #[.string a0_0, .int .i64 a0_1, .int .i64 a0_2, .int .i64 a0_3, .int .i64 a0_4, .int .u32 a0_5, .string a0_6, .bool a0_7, .slice A0_8 l0_8.length c0_8] 35 (0, 0)) (by (with_reducible repeat (first | refine blk_drewN ?_ _ | refine blk_drew ?_ | refine blk_alloc ?_ _)); exact BK168.out)) : gb217 ≠ gb168)); have n12_ := Aside0.mk ((by rw [hg]; exact Nat.ne_of_lt (blk_lt (g := gb175) (o := .cells #[.string x176000_9, .int .i64 x176001_9, .int .i64 x176002_9, .int .i64 x176003_9] 30 (0, 0)) (by (with_reducible repeat (first | refine blk_drewN ?_ _ | refine blk_drew ?_ | refine blk_alloc ?_ _)); exact BK175.out)) : gb175 ≠ gb217)); have n13_ := Aside0.mk ((by rw [hg]; exact Nat.ne_of_gt (blk_lt (g := gb175) (o := .cells #[.string x176000_9, .int .i64 x176001_9, .int .i64 x176002_9, .int .i64 x176003_9] 30 (0, 0)) (by (with_reducible repeat (first | refine blk_drewN ?_ _ | refine blk_drew ?_ | refine blk_alloc ?_ _)); exact BK175.out)) : gb217 ≠ gb175)); have n14_ := Aside0.mk ((by rw [hg]; exact Nat.ne_of_lt (blk_lt (g := gb181) (o := .cells #[.int .i64 t202, .int .u32 t203, .string t204, .bool t205] 32 (0, 0)) (by (with_reducible repeat (first | refine blk_drewN ?_ _ | refine blk_drew ?_ | refine blk_alloc ?_ _)); exact BK181.out)) : gb181 ≠ gb217)); have n15_ := Aside0.mk ((by rw [hg]; exact Nat.ne_of_gt (blk_lt (g := gb181) (o := .cells #[.int .i64 t202, .int .u32 t203, .string t204, .bool t205] 32 (0, 0)) (by (with_reducible repeat (first | refine blk_drewN ?_ _ | refine blk_drew ?_ | refine blk_alloc ?_ _)); exact BK181.out)) : gb217 ≠ gb181)); have n16_ := Aside0.mk ((by rw [hg]; exact Nat.ne_of_lt (blk_lt (g := gb192) (o := .cells #[.string t184, .int .i64 t185, .int .i64 t186, .int .i64 t187] 30 (0, 0)) (by (with_reducible repeat (first | refine blk_drewN ?_ _ | refine blk_drew ?_ | refine blk_alloc ?_ _)); exact BK192.out)) : gb192 ≠ gb217)); have n17_ := Aside0.mk ((by rw [hg]; exact Nat.ne_of_gt (blk_lt (g := gb192) (o := .cells #[.string t184, .int .i64 t185, .int .i64 t186, .int .i64 t187] 30 (0, 0)) (by (with_reducible repeat (first | refine blk_drewN ?_ _ | refine blk_drew ?_ | refine blk_alloc ?_ _)); exact BK192.out)) : gb217 ≠ gb192)); have n18_ := Aside0.mk ((by rw [hg]; exact Nat.ne_of_lt (blk_lt (g := gb209) (o := .cells #[.int .i64 t202, .int .u32 t203, .string t204, .bool t205] 32 (0, 0)) (by (with_reducible repeat (first | refine blk_drewN ?_ _ | refine blk_drew ?_ | refine blk_alloc ?_ _)); exact BK209.out)) : gb209 ≠ gb217)); have n19_ := Aside0.mk ((by rw [hg]; exact Nat.ne_of_gt (blk_lt (g := gb209) (o := .cells #[.int .i64 t202, .int .u32 t203, .string t204, .bool t205] 32 (0, 0)) (by (with_reducible repeat (first | refine blk_drewN ?_ _ | refine blk_drew ?_ | refine blk_alloc ?_ _)); exact BK209.out)) : gb217 ≠ gb209)); clear HO_10; clear BK168; clear BK175; clear BK181; clear BK192; clear BK209; clear HB; have HO_10 := n0_; have BK168 := n1_; have BK175 := n2_; have BK181 := n3_; have BK192 := n4_; have BK209 := n5_; have HB := n6_; have BK217 := n7_; have GW217 := n8_; have GE217 := n9_; have NB168_217 := n10_; have NB217_168 := n11_; have NB175_217 := n12_; have NB217_175 := n13_; have NB181_217 := n14_; have NB217_181 := n15_; have NB192_217 := n16_; have NB217_192 := n17_; have NB209_217 := n18_; have NB217_209 := n19_; clear n0_ n1_ n2_ n3_ n4_ n5_ n6_ n7_ n8_ n9_ n10_ n11_ n12_ n13_ n14_ n15_ n16_ n17_ n18_ n19_; clear hb hbox hg; have hnb191 := NB217_168.out; have hnc191 := NB168_217.out; have hnb192 := NB217_175.out; have hnc192 := NB175_217.out; have hnb193 := NB217_181.out; have hnc193 := NB181_217.out; have hnb194 := NB217_192.out; have hnc194 := NB192_217.out; have hnb195 := NB217_209.out; have hnc195 := NB209_217.out; obtain ⟨hcz196_0, hcz196_1, hcz196_2, hcz196_3, hfz196_0, hfz196_1, hfz196_2, hfz196_3⟩ := blkall_4 BK217.out) | ((with_reducible refine gate_callee (f := 18) rfl ?_); refine goesL_ (some 211) rfl rfl Try.func18 (by kernel_rfl) rfl #[.int .i64 t216] rfl (by (try simp only [List.map_toArray, List.map_cons, List.map_nil]); first | done | rfl | (simp only [List.length_drop, List.length_take]; rfl)) ?_; (with_reducible refine (thresherlaw20_num.calls t216 t218 _ A167.out).mono ?_); rintro e w' ⟨rfl, ⟨nd, rfl⟩⟩; refine ⟨_, rfl, ?_⟩))
                                      go_ret
                                      exact ⟨by first | rfl | (simp [errW_none, errW_some] <;> rfl) | (simp [*, errW_none, errW_some] <;> rfl), by repeat (first | (with_reducible first | exact HB.out | apply below_alloc | apply pw_below_drewN | apply below_drew1 | refine below_set ?_ GE168.out | refine below_set ?_ GE175.out | refine below_set ?_ GE181.out | refine below_set ?_ GE192.out | refine below_set ?_ GE209.out | refine below_set ?_ GE217.out) | exact HB.out)⟩
                                     rw [if_pos c168] at H
                                     have c168b0 : (t218 == 0) = true := beq_iff_eq.mpr c168
                                     have c168b1 : (t218 != 0) = false := bne_eq_false_iff_eq.mpr c168
                                     clear c168
                                     obtain ⟨ji169, hji169⟩ : ∃ j_ : Int, (mx x7_9 t206) = j_ := ⟨_, rfl⟩
                                     replace H : (thresherlaw20_StreamWhole.l2 kj141 t182 ji169 x8_2 t188 x7_2 x13_5 t196 x16_71 x17_96 (wrap64 (x18_9 + 1)) a0_0 a0_1 a0_2 a0_3 a0_4 a0_5 a0_6 a0_7 l0_8 t212 t213 t214 t215 t202 t203 t204 t205) = some r := by first | (rw [hji169] at H; exact H) | (simp only [hji169] at H ⊢; exact H)
                                     (try rw [hji169] at A166)
                                     (try rw [hji169] at A167)
                                     have hji169_ : (if x7_9 < t206 then t206 else x7_9) = ji169 := hji169
                                     have H' := Aside0.mk H
                                     clear H; have hnb170 := NB175_168.out; have hnc170 := NB168_175.out; have hnb171 := NB175_181.out; have hnc171 := NB181_175.out; have hnb172 := NB175_192.out; have hnc172 := NB192_175.out; have hnb173 := NB175_209.out; have hnc173 := NB209_175.out
                                     obtain ⟨hcz174_0, hcz174_1, hcz174_2, hcz174_3, hfz174_0, hfz174_1, hfz174_2, hfz174_3⟩ := blkall_4 BK175.out
                                     go_wp2_with (first | ((with_reducible refine gate_callee (f := 20) rfl ?_); refine goesL_ (some 207) rfl rfl Try.func20 (by kernel_rfl) rfl #[.agg #[.string x176000_9, .int .i64 x176001_9, .int .i64 x176002_9, .int .i64 x176003_9], .int .i64 t206] rfl (by (try simp only [List.map_toArray, List.map_cons, List.map_nil]); first | done | rfl | (simp only [List.length_drop, List.length_take]; rfl)) ?_; (with_reducible refine (stream_Ack.calls x176000_9 x176001_9 x176002_9 x176003_9 t206 t212 t213 t214 t215 t216 _ A166.out).mono ?_); rintro e w175 ⟨rfl, hb⟩; refine ⟨_, rfl, ?_⟩; have n0_ := Aside0.mk (Kd.R_below (by (with_reducible repeat (first | apply Kd.R_alloc | apply Kd.R_drewN | apply Kd.R_drew)); exact HO_10.out) hb); have n1_ := Aside0.mk (blk_below (g := gb168) (o := .cells #[.string a0_0, .int .i64 a0_1, .int .i64 a0_2, .int .i64 a0_3, .int .i64 a0_4, .int .u32 a0_5, .string a0_6, .bool a0_7, .slice A0_8 l0_8.length c0_8] 35 (0, 0)) (by (with_reducible repeat (first | refine blk_drewN ?_ _ | refine blk_drew ?_ | refine blk_alloc ?_ _)); exact BK168.out) hb); have n2_ := Aside0.mk (blk_below (g := gb175) (o := .cells #[.string x176000_9, .int .i64 x176001_9, .int .i64 x176002_9, .int .i64 x176003_9] 30 (0, 0)) (by (with_reducible repeat (first | refine blk_drewN ?_ _ | refine blk_drew ?_ | refine blk_alloc ?_ _)); exact BK175.out) hb); have n3_ := Aside0.mk (blk_below (g := gb181) (o := .cells #[.int .i64 t202, .int .u32 t203, .string t204, .bool t205] 32 (0, 0)) (by (with_reducible repeat (first | refine blk_drewN ?_ _ | refine blk_drew ?_ | refine blk_alloc ?_ _)); exact BK181.out) hb); have n4_ := Aside0.mk (blk_below (g := gb192) (o := .cells #[.string t184, .int .i64 t185, .int .i64 t186, .int .i64 t187] 30 (0, 0)) (by (with_reducible repeat (first | refine blk_drewN ?_ _ | refine blk_drew ?_ | refine blk_alloc ?_ _)); exact BK192.out) hb); have n5_ := Aside0.mk (blk_below (g := gb209) (o := .cells #[.int .i64 t202, .int .u32 t203, .string t204, .bool t205] 32 (0, 0)) (by (with_reducible repeat (first | refine blk_drewN ?_ _ | refine blk_drew ?_ | refine blk_alloc ?_ _)); exact BK209.out) hb); have n6_ := Aside0.mk (below_step (by repeat (first | (with_reducible first | exact HB.out | apply below_alloc | apply pw_below_drewN | apply below_drew1 | refine below_set ?_ GE168.out | refine below_set ?_ GE175.out | refine below_set ?_ GE181.out | refine below_set ?_ GE192.out | refine below_set ?_ GE209.out) | exact HB.out)) hb); clear HO_10; clear BK168; clear BK175; clear BK181; clear BK192; clear BK209; clear HB; have HO_10 := n0_; have BK168 := n1_; have BK175 := n2_; have BK181 := n3_; have BK192 := n4_; have BK209 := n5_; have HB := n6_; clear n0_ n1_ n2_ n3_ n4_ n5_ n6_; (try clear hb); (try clear hb2); (try clear hk); (try clear hi)) | ((with_reducible refine gate_dst (N := 23) rfl ?_); (try (refine gate_guard (by rfl) ?_; dsimp only)); refine box_event ?hg (N := 23) ?hd (cs := #[.string (⟨#[]⟩ : ByteArray), .int .i64 0, .int .i64 0, .int .i64 0]) (t := 30) ?hr ?_; (case hd => rfl); (case hg => rfl); (case hr => first | (go_simp; done) | (go_simp; rfl)); intro gb217 hg w176 hbox hb; have n0_ := Aside0.mk (Kd.R_below (by (with_reducible repeat (first | apply Kd.R_alloc | apply Kd.R_drewN | apply Kd.R_drew)); exact HO_10.out) hb); have n1_ := Aside0.mk (blk_below (g := gb168) (o := .cells #[.string a0_0, .int .i64 a0_1, .int .i64 a0_2, .int .i64 a0_3, .int .i64 a0_4, .int .u32 a0_5, .string a0_6, .bool a0_7, .slice A0_8 l0_8.length c0_8] 35 (0, 0)) (by (with_reducible repeat (first | refine blk_drewN ?_ _ | refine blk_drew ?_ | refine blk_alloc ?_ _)); exact BK168.out) hb); have n2_ := Aside0.mk (blk_below (g := gb175) (o := .cells #[.string x176000_9, .int .i64 x176001_9, .int .i64 x176002_9, .int .i64 x176003_9] 30 (0, 0)) (by (with_reducible repeat (first | refine blk_drewN ?_ _ | refine blk_drew ?_ | refine blk_alloc ?_ _)); exact BK175.out) hb); have n3_ := Aside0.mk (blk_below (g := gb181) (o := .cells #[.int .i64 t202, .int .u32 t203, .string t204, .bool t205] 32 (0, 0)) (by (with_reducible repeat (first | refine blk_drewN ?_ _ | refine blk_drew ?_ | refine blk_alloc ?_ _)); exact BK181.out) hb); have n4_ := Aside0.mk (blk_below (g := gb192) (o := .cells #[.string t184, .int .i64 t185, .int .i64 t186, .int .i64 t187] 30 (0, 0)) (by (with_reducible repeat (first | refine blk_drewN ?_ _ | refine blk_drew ?_ | refine blk_alloc ?_ _)); exact BK192.out) hb); have n5_ := Aside0.mk (blk_below (g := gb209) (o := .cells #[.int .i64 t202, .int .u32 t203, .string t204, .bool t205] 32 (0, 0)) (by (with_reducible repeat (first | refine blk_drewN ?_ _ | refine blk_drew ?_ | refine blk_alloc ?_ _)); exact BK209.out) hb); have n6_ := Aside0.mk (below_step (by repeat (first | (with_reducible first | exact HB.out | apply below_alloc | apply pw_below_drewN | apply below_drew1 | refine below_set ?_ GE168.out | refine below_set ?_ GE175.out | refine below_set ?_ GE181.out | refine below_set ?_ GE192.out | refine below_set ?_ GE209.out) | exact HB.out)) hb); have n7_ := Aside0.mk (hbox); have n8_ := Aside0.mk ((by rw [hg]; exact (below_size (by repeat (first | (with_reducible first | exact HB.out | apply below_alloc | apply pw_below_drewN | apply below_drew1 | refine below_set ?_ GE168.out | refine below_set ?_ GE175.out | refine below_set ?_ GE181.out | refine below_set ?_ GE192.out | refine below_set ?_ GE209.out) | exact HB.out))) : w.heap.size ≤ gb217)); have n9_ := Aside0.mk ((by rw [hg]; exact (below_size (by repeat (first | (with_reducible first | exact HB.out | apply below_alloc | apply pw_below_drewN | apply below_drew1 | refine below_set ?_ GE168.out | refine below_set ?_ GE175.out | refine below_set ?_ GE181.out | refine below_set ?_ GE192.out | refine below_set ?_ GE209.out) | exact HB.out))) : w.heap.size ≤ gb217)); have n10_ := Aside0.mk ((by rw [hg]; exact Nat.ne_of_lt (blk_lt (g := gb168) (o := .cells #[.string a0_0, .int .i64 a0_1, .int .i64 a0_2, .int .i64 a0_3, .int .i64 a0_4, .int .u32 a0_5, .string a0_6, .bool a0_7, .slice A0_8 l0_8.length c0_8] 35 (0, 0)) (by (with_reducible repeat (first | refine blk_drewN ?_ _ | refine blk_drew ?_ | refine blk_alloc ?_ _)); exact BK168.out)) : gb168 ≠ gb217)); have n11_ := Aside0.mk ((by rw [hg]; exact Nat.ne_of_gt (blk_lt (g := gb168) (o := .cells #[.string a0_0, .int .i64 a0_1, .int .i64 a0_2, .int .i64 a0_3, .int .i64 a0_4, .int .u32 a0_5, .string a0_6, .bool a0_7, .slice A0_8 l0_8.length c0_8] 35 (0, 0)) (by (with_reducible repeat (first | refine blk_drewN ?_ _ | refine blk_drew ?_ | refine blk_alloc ?_ _)); exact BK168.out)) : gb217 ≠ gb168)); have n12_ := Aside0.mk ((by rw [hg]; exact Nat.ne_of_lt (blk_lt (g := gb175) (o := .cells #[.string x176000_9, .int .i64 x176001_9, .int .i64 x176002_9, .int .i64 x176003_9] 30 (0, 0)) (by (with_reducible repeat (first | refine blk_drewN ?_ _ | refine blk_drew ?_ | refine blk_alloc ?_ _)); exact BK175.out)) : gb175 ≠ gb217)); have n13_ := Aside0.mk ((by rw [hg]; exact Nat.ne_of_gt (blk_lt (g := gb175) (o := .cells #[.string x176000_9, .int .i64 x176001_9, .int .i64 x176002_9, .int .i64 x176003_9] 30 (0, 0)) (by (with_reducible repeat (first | refine blk_drewN ?_ _ | refine blk_drew ?_ | refine blk_alloc ?_ _)); exact BK175.out)) : gb217 ≠ gb175)); have n14_ := Aside0.mk ((by rw [hg]; exact Nat.ne_of_lt (blk_lt (g := gb181) (o := .cells #[.int .i64 t202, .int .u32 t203, .string t204, .bool t205] 32 (0, 0)) (by (with_reducible repeat (first | refine blk_drewN ?_ _ | refine blk_drew ?_ | refine blk_alloc ?_ _)); exact BK181.out)) : gb181 ≠ gb217)); have n15_ := Aside0.mk ((by rw [hg]; exact Nat.ne_of_gt (blk_lt (g := gb181) (o := .cells #[.int .i64 t202, .int .u32 t203, .string t204, .bool t205] 32 (0, 0)) (by (with_reducible repeat (first | refine blk_drewN ?_ _ | refine blk_drew ?_ | refine blk_alloc ?_ _)); exact BK181.out)) : gb217 ≠ gb181)); have n16_ := Aside0.mk ((by rw [hg]; exact Nat.ne_of_lt (blk_lt (g := gb192) (o := .cells #[.string t184, .int .i64 t185, .int .i64 t186, .int .i64 t187] 30 (0, 0)) (by (with_reducible repeat (first | refine blk_drewN ?_ _ | refine blk_drew ?_ | refine blk_alloc ?_ _)); exact BK192.out)) : gb192 ≠ gb217)); have n17_ := Aside0.mk ((by rw [hg]; exact Nat.ne_of_gt (blk_lt (g := gb192) (o := .cells #[.string t184, .int .i64 t185, .int .i64 t186, .int .i64 t187] 30 (0, 0)) (by (with_reducible repeat (first | refine blk_drewN ?_ _ | refine blk_drew ?_ | refine blk_alloc ?_ _)); exact BK192.out)) : gb217 ≠ gb192)); have n18_ := Aside0.mk ((by rw [hg]; exact Nat.ne_of_lt (blk_lt (g := gb209) (o := .cells #[.int .i64 t202, .int .u32 t203, .string t204, .bool t205] 32 (0, 0)) (by (with_reducible repeat (first | refine blk_drewN ?_ _ | refine blk_drew ?_ | refine blk_alloc ?_ _)); exact BK209.out)) : gb209 ≠ gb217)); have n19_ := Aside0.mk ((by rw [hg]; exact Nat.ne_of_gt (blk_lt (g := gb209) (o := .cells #[.int .i64 t202, .int .u32 t203, .string t204, .bool t205] 32 (0, 0)) (by (with_reducible repeat (first | refine blk_drewN ?_ _ | refine blk_drew ?_ | refine blk_alloc ?_ _)); exact BK209.out)) : gb217 ≠ gb209)); clear HO_10; clear BK168; clear BK175; clear BK181; clear BK192; clear BK209; clear HB; have HO_10 := n0_; have BK168 := n1_; have BK175 := n2_; have BK181 := n3_; have BK192 := n4_; have BK209 := n5_; have HB := n6_; have BK217 := n7_; have GW217 := n8_; have GE217 := n9_; have NB168_217 := n10_; have NB217_168 := n11_; have NB175_217 := n12_; have NB217_175 := n13_; have NB181_217 := n14_; have NB217_181 := n15_; have NB192_217 := n16_; have NB217_192 := n17_; have NB209_217 := n18_; have NB217_209 := n19_; clear n0_ n1_ n2_ n3_ n4_ n5_ n6_ n7_ n8_ n9_ n10_ n11_ n12_ n13_ n14_ n15_ n16_ n17_ n18_ n19_; clear hb hbox hg; have hnb177 := NB217_168.out; have hnc177 := NB168_217.out; have hnb178 := NB217_175.out; have hnc178 := NB175_217.out; have hnb179 := NB217_181.out; have hnc179 := NB181_217.out; have hnb180 := NB217_192.out; have hnc180 := NB192_217.out; have hnb181 := NB217_209.out; have hnc181 := NB209_217.out; obtain ⟨hcz182_0, hcz182_1, hcz182_2, hcz182_3, hfz182_0, hfz182_1, hfz182_2, hfz182_3⟩ := blkall_4 BK217.out) | ((with_reducible refine gate_callee (f := 18) rfl ?_); refine goesL_ (some 211) rfl rfl Try.func18 (by kernel_rfl) rfl #[.int .i64 t216] rfl (by (try simp only [List.map_toArray, List.map_cons, List.map_nil]); first | done | rfl | (simp only [List.length_drop, List.length_take]; rfl)) ?_; (with_reducible refine (thresherlaw20_num.calls t216 t218 _ A167.out).mono ?_); rintro e w' ⟨rfl, ⟨nd, rfl⟩⟩; refine ⟨_, rfl, ?_⟩; obtain ⟨hcz183_0, hcz183_1, hcz183_2, hcz183_3, hfz183_0, hfz183_1, hfz183_2, hfz183_3⟩ := blkall_4 BK175.out))
                                     go_roundg kj141
                                     case measure => have := HJ1.out; have := HK2.out; have := HJ31.out; have := HJ43.out; have := HK5.out; have := HJ71.out; have := HJ85.out; have := HJ96.out; have := HK9.out; have := HJ98.out; have := HJ104.out; have := HJ141.out; omega
                                     case rel => exact ⟨(ji169), (wrap64 (x18_9 + 1)), (t212), (t213), (t214), (t215), (t202), (t203), (t204), (t205), (by first | rfl | (simp; done) | (simp only [← hji169] <;> (first | rfl | simp)) | (simp [*]; done)), (by first | rfl | (simp; done) | (simp [*]; done)), H', ⟨by have := HJ1.out; have := HK2.out; have := HJ31.out; have := HJ43.out; have := HK5.out; have := HJ71.out; have := HJ85.out; have := HJ96.out; have := HK9.out; have := HJ98.out; have := HJ104.out; have := HJ141.out; omega⟩, ⟨by (with_reducible repeat (first | apply Kd.R_alloc | apply Kd.R_drewN | apply Kd.R_drew)); exact Kd.R_mono (Kd.R_far (p := ⟨gb175, 3, none⟩) (Kd.R_far (p := ⟨gb175, 2, none⟩) (Kd.R_far (p := ⟨gb175, 1, none⟩) (Kd.R_far (p := ⟨gb175, 0, none⟩) (Kd.R_far (p := ⟨gb217, 3, none⟩) (Kd.R_far (p := ⟨gb217, 2, none⟩) (Kd.R_far (p := ⟨gb217, 1, none⟩) (Kd.R_far (p := ⟨gb217, 0, none⟩) (Kd.R_types (Kd.R_types HO_10.out BK217.out (by decide)) BK175.out (by decide)) (fun _ hk => hk.1.2) (.string t212)) (fun _ hk => hk.1.2) (.int .i64 t213)) (fun _ hk => hk.1.2) (.int .i64 t214)) (fun _ hk => hk.1.2) (.int .i64 t215)) (fun _ hk => hk.2) (.string t212)) (fun _ hk => hk.2) (.int .i64 t213)) (fun _ hk => hk.2) (.int .i64 t214)) (fun _ hk => hk.2) (.int .i64 t215)) (fun _ hk => trivial)⟩, ⟨by (with_reducible repeat (first | refine blk_drewN ?_ _ | refine blk_drew ?_ | refine blk_alloc ?_ _ | refine blk_far ?_ NB168_175.out _ | refine blk_far ?_ NB168_217.out _)); exact BK168.out⟩, ⟨by (with_reducible repeat (first | refine blk_drewN ?_ _ | refine blk_drew ?_ | refine blk_alloc ?_ _)); refine blk_put (cs := #[.string t212, .int .i64 t213, .int .i64 t214, .int .i64 x176003_9]) ?_ 3 _ rfl; (with_reducible repeat (first | refine blk_drewN ?_ _ | refine blk_drew ?_ | refine blk_alloc ?_ _)); refine blk_put (cs := #[.string t212, .int .i64 t213, .int .i64 x176002_9, .int .i64 x176003_9]) ?_ 2 _ rfl; (with_reducible repeat (first | refine blk_drewN ?_ _ | refine blk_drew ?_ | refine blk_alloc ?_ _)); refine blk_put (cs := #[.string t212, .int .i64 x176001_9, .int .i64 x176002_9, .int .i64 x176003_9]) ?_ 1 _ rfl; (with_reducible repeat (first | refine blk_drewN ?_ _ | refine blk_drew ?_ | refine blk_alloc ?_ _)); refine blk_put (cs := #[.string x176000_9, .int .i64 x176001_9, .int .i64 x176002_9, .int .i64 x176003_9]) ?_ 0 _ rfl; (with_reducible repeat (first | refine blk_drewN ?_ _ | refine blk_drew ?_ | refine blk_alloc ?_ _ | refine blk_far ?_ NB175_217.out _)); exact BK175.out⟩, ⟨by (with_reducible repeat (first | refine blk_drewN ?_ _ | refine blk_drew ?_ | refine blk_alloc ?_ _ | refine blk_far ?_ NB181_175.out _ | refine blk_far ?_ NB181_217.out _)); exact BK181.out⟩, ⟨by (with_reducible repeat (first | refine blk_drewN ?_ _ | refine blk_drew ?_ | refine blk_alloc ?_ _ | refine blk_far ?_ NB192_175.out _ | refine blk_far ?_ NB192_217.out _)); exact BK192.out⟩, ⟨by repeat (first | (with_reducible first | exact HB.out | apply below_alloc | apply pw_below_drewN | apply below_drew1 | refine below_set ?_ GE168.out | refine below_set ?_ GE175.out | refine below_set ?_ GE181.out | refine below_set ?_ GE192.out | refine below_set ?_ GE209.out | refine below_set ?_ GE217.out) | exact HB.out)⟩⟩
end Go.Proofs.Ytbadcpaopdbgnaa.PStreamWhole
