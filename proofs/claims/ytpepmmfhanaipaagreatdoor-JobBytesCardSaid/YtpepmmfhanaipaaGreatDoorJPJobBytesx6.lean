-- Put together by mergex.py out of this workplace's texts.
import Derived.Test.YtpepmmfhanaipaaGreatDoorJPJobBytesx0
import Derived.Test.YtpepmmfhanaipaaGreatDoorJPJobBytesx1
import Derived.Test.YtpepmmfhanaipaaGreatDoorJPJobBytesx2
import Derived.Test.YtpepmmfhanaipaaGreatDoorJPJobBytesx3
import Derived.Test.YtpepmmfhanaipaaGreatDoorJPJobBytesx4
import Derived.Test.YtpepmmfhanaipaaGreatDoorJPJobBytesx5
import Derived.Test.YtpepmmfhanaipaaGreatDoorJPJobBytesTa
import Derived.Test.YtpepmmfhanaipaaGreatDoorJPJobBytesTb
import Derived.Test.YtpepmmfhanaipaaGreatDoorJPJobBytesTw
namespace Go.Proofs.YtpepmmfhanaipaaGreatDoor.PJobBytes
open Go.RowKit Go.Proofs.YtpepmmfhanaipaaGreatDoorW.PrintWords Go.Proofs.YtpepmmfhanaipaaGreatDoorW.PrintLast Go.Proofs.YtpepmmfhanaipaaGreatDoorW.PrintMore
attribute [local go_sem] max2_int min2_int max_two min_two max_three min_three max_four min_four   -- for this text's walks alone
set_option linter.unusedVariables false
set_option linter.unusedSimpArgs false
mutual
def thresherlaw14_JobBytes.l0 : Nat → List ByteArray → Int → Int → List (S123) → Int → Int → List Int → List (S63) → ByteArray → Option (Bool)
 | 0, _, _, _, _, _, _, _, _, _ => none
 | k + 1, x3, x4, x252000, x252001, x252002, x252003, x252004, x252005, x252006 => if x4 < (x252005.length : Int) then (thresherlaw14_JobBytes.j1 k x3 x4 (decide (x4 < 6)) x252000 x252001 x252002 x252003 x252004 x252005 x252006) else (thresherlaw14_JobBytes.j1 k x3 x4 false x252000 x252001 x252002 x252003 x252004 x252005 x252006)
def thresherlaw14_JobBytes.j1 : Nat → List ByteArray → Int → Bool → Int → List (S123) → Int → Int → List Int → List (S63) → ByteArray → Option (Bool)
 | 0, _, _, _, _, _, _, _, _, _, _ => none
 | k + 1, x3, x4, x30, x252000, x252001, x252002, x252003, x252004, x252005, x252006 => if x30 = true then (if 0 ≤ x4 then (if x4 < (x252005.length : Int) then ((job_Bytes.f k ((rd_T63 x252005 x4).f0) ((rd_T63 x252005 x4).f1) ((rd_T63 x252005 x4).f2) ((rd_T63 x252005 x4).f3) ((rd_T63 x252005 x4).f4) ((rd_T63 x252005 x4).f5) ((rd_T63 x252005 x4).f6)).bind fun bt257 => ((thresherref13_Job.f k ((rd_T63 x252005 x4).f0) ((rd_T63 x252005 x4).f1) ((rd_T63 x252005 x4).f2) ((rd_T63 x252005 x4).f3) ((rd_T63 x252005 x4).f4) ((rd_T63 x252005 x4).f5) ((rd_T63 x252005 x4).f6)).bind fun t260 => (if t260 = true then ((thresherref13_Bytes.f k ((rd_T63 x252005 x4).f0) ((rd_T63 x252005 x4).f1) ((rd_T63 x252005 x4).f2) ((rd_T63 x252005 x4).f3) ((rd_T63 x252005 x4).f4) ((rd_T63 x252005 x4).f5) ((rd_T63 x252005 x4).f6)).bind fun t262 => (if t262.size + 1 ≤ 9223372036854775807 then ((some (([t262, t262 ++ (⟨#[120]⟩ : ByteArray)] : List ByteArray) : List ByteArray)).bind fun y263 => (if x3.length + y263.length < 8796093022208 then (thresherlaw14_JobBytes.l1 k (x3 ++ y263) x4 bt257.1 bt257.2 0 t262 0 x252000 x252001 x252002 x252003 x252004 x252005 x252006) else (none))) else (none))) else (thresherlaw14_JobBytes.j3 k x3 x4 bt257.1 bt257.2 1 (⟨#[]⟩ : ByteArray) x252000 x252001 x252002 x252003 x252004 x252005 x252006)))) else (none)) else (none)) else (thresherlaw14_JobBytes.l2 k x3 0)
def thresherlaw14_JobBytes.j3 : Nat → List ByteArray → Int → ByteArray → Int → Int → ByteArray → Int → List (S123) → Int → Int → List Int → List (S63) → ByteArray → Option (Bool)
 | 0, _, _, _, _, _, _, _, _, _, _, _, _, _ => none
 | k + 1, x3, x4, x5, x6, x7, x8, x252000, x252001, x252002, x252003, x252004, x252005, x252006 => if 0 ≤ x4 then (if x4 < (x252005.length : Int) then ((job_Check.f k ((rd_T63 x252005 x4).f0) ((rd_T63 x252005 x4).f1) ((rd_T63 x252005 x4).f2) ((rd_T63 x252005 x4).f3) ((rd_T63 x252005 x4).f4) ((rd_T63 x252005 x4).f5) ((rd_T63 x252005 x4).f6)).bind fun t273 => ((thresherlaw14_num.f t273).bind fun t274 => (if t274 = x7 then ((thresherlaw14_num.f x6).bind fun t275 => (if t275 = x7 then (thresherlaw14_JobBytes.j4 k x3 x4 x5 x7 (x5.toList != x8.toList) x252000 x252001 x252002 x252003 x252004 x252005 x252006) else (thresherlaw14_JobBytes.j4 k x3 x4 x5 x7 true x252000 x252001 x252002 x252003 x252004 x252005 x252006))) else (thresherlaw14_JobBytes.j4 k x3 x4 x5 x7 true x252000 x252001 x252002 x252003 x252004 x252005 x252006)))) else (none)) else (none)
def thresherlaw14_JobBytes.j4 : Nat → List ByteArray → Int → ByteArray → Int → Bool → Int → List (S123) → Int → Int → List Int → List (S63) → ByteArray → Option (Bool)
 | 0, _, _, _, _, _, _, _, _, _, _, _, _ => none
 | k + 1, x3, x4, x5, x7, x95, x252000, x252001, x252002, x252003, x252004, x252005, x252006 => if x95 = true then (some false) else ((job_Take.f k x5).bind fun bt276 => (if x7 = 0 then ((thresherlaw14_num.f bt276.2.2.2.2.2.2.2).bind fun t287 => (if t287 = 0 then (if 0 ≤ x4 then (if x4 < (x252005.length : Int) then ((thresherref0_EqJob.f k bt276.1 bt276.2.1 bt276.2.2.1 bt276.2.2.2.1 bt276.2.2.2.2.1 bt276.2.2.2.2.2.1 bt276.2.2.2.2.2.2.1 ((rd_T63 x252005 x4).f0) ((rd_T63 x252005 x4).f1) ((rd_T63 x252005 x4).f2) ((rd_T63 x252005 x4).f3) ((rd_T63 x252005 x4).f4) ((rd_T63 x252005 x4).f5) ((rd_T63 x252005 x4).f6)).bind fun t289 => (if t289 = true then (thresherlaw14_JobBytes.l0 k x3 (wrap64 (x4 + 1)) x252000 x252001 x252002 x252003 x252004 x252005 x252006) else (some false))) else (none)) else (none)) else (some false))) else (thresherlaw14_JobBytes.l0 k x3 (wrap64 (x4 + 1)) x252000 x252001 x252002 x252003 x252004 x252005 x252006)))
def thresherlaw14_JobBytes.l1 : Nat → List ByteArray → Int → ByteArray → Int → Int → ByteArray → Int → Int → List (S123) → Int → Int → List Int → List (S63) → ByteArray → Option (Bool)
 | 0, _, _, _, _, _, _, _, _, _, _, _, _, _, _ => none
 | k + 1, x3, x4, x5, x6, x7, x8, x9, x252000, x252001, x252002, x252003, x252004, x252005, x252006 => if x9 < (x8.size : Int) then (if 0 ≤ x9 then (if x9 ≤ (x8.size : Int) then (if x3.length < 8796093022208 then (thresherlaw14_JobBytes.l1 k (x3 ++ [x8.extract 0 (x9 : Int).toNat]) x4 x5 x6 x7 x8 (wrap64 ((wrap64 (x9 + 1)) + (wrap64 ((x8.size : Int) / 9)))) x252000 x252001 x252002 x252003 x252004 x252005 x252006) else (none)) else (none)) else (none)) else (thresherlaw14_JobBytes.j3 k x3 x4 x5 x6 x7 x8 x252000 x252001 x252002 x252003 x252004 x252005 x252006)
def thresherlaw14_JobBytes.l2 : Nat → List ByteArray → Int → Option (Bool)
 | 0, _, _ => none
 | k + 1, x3, x12 => if x12 < (x3.length : Int) then (if 0 ≤ x12 then ((job_Take.f k (rdOf ByteArray.empty x3 x12)).bind fun bt292 => ((thresherref13_Take.f k (rdOf ByteArray.empty x3 x12)).bind fun bt304 => ((thresherlaw14_num.f bt292.2.2.2.2.2.2.2).bind fun t315 => (if t315 = bt304.2.2.2.2.2.2.2 then ((thresherref0_EqJob.f k bt292.1 bt292.2.1 bt292.2.2.1 bt292.2.2.2.1 bt292.2.2.2.2.1 bt292.2.2.2.2.2.1 bt292.2.2.2.2.2.2.1 bt304.1 bt304.2.1 bt304.2.2.1 bt304.2.2.2.1 bt304.2.2.2.2.1 bt304.2.2.2.2.2.1 bt304.2.2.2.2.2.2.1).bind fun t316 => (if t316 = true then (thresherlaw14_JobBytes.l2 k x3 (wrap64 (x12 + 1))) else (some false))) else (some false))))) else (none)) else ((thresherlaw14_wakes.f).bind fun t290 => (some t290))
end
def thresherlaw14_JobBytes.f (k : Nat) (a0_0 : Int) (l0_1 : List (S123)) (a0_2 : Int) (a0_3 : Int) (l0_4 : List Int) (l0_5 : List (S63)) (a0_6 : ByteArray) : Option (Bool) := (thresherlaw14_Heavy.f k a0_0 l0_1 a0_2 a0_3 l0_4 l0_5 a0_6).bind fun t252 => (if t252 = true then (some true) else (thresherlaw14_JobBytes.l0 k (([a0_6] : List ByteArray)) 0 a0_0 l0_1 a0_2 a0_3 l0_4 l0_5 a0_6))
def thresherlaw14_JobBytes.T19 : Bool × List (List Nat × List Nat) := (true, [([], []), ([0], [0]), ([1], [1]), ([2], [2]), ([3, 2, 2], [2, 3]), ([4, 2], [2, 4]), ([5, 4, 2], [2, 5]), ([6], [6]), ([6], [6]), ([8, 6], [6, 8]), ([6], [6]), ([9, 10, 6], [6, 9, 10]), ([11, 6], [6, 11]), ([7, 12, 6, 6], [6, 7, 12]), ([13, 6], [6, 13]), ([6, 14, 2], [2, 6, 14]), ([2, 15], [2, 15])])
def thresherlaw14_JobBytes.B19 : List Nat := [0, 1, 3, 7, 15, 31, 63, 127, 127, 383, 127, 1919, 3967, 8191, 16383, 32767, 65535]
theorem thresherlaw14_JobBytes.tab19 : rtab .any (opsOf Tryz.f5 19) = thresherlaw14_JobBytes.T19 := by kernel_rfl
theorem thresherlaw14_JobBytes.bits19 : waitsOk thresherlaw14_JobBytes.T19.2 thresherlaw14_JobBytes.B19 = true := by kernel_rfl
set_option maxHeartbeats 8000000 in
set_option maxRecDepth 100000 in
theorem thresherlaw14_JobBytes.calls (k : Nat) (a0_0 : Int) (A0_1 : Option Addr) (c0_1 : Nat) (l0_1 : List (S123)) (a0_2 : Int) (a0_3 : Int) (A0_4 : Option Addr) (c0_4 : Nat) (l0_4 : List Int) (A0_5 : Option Addr) (c0_5 : Nat) (l0_5 : List (S63)) (a0_6 : ByteArray) (r : Bool) (w : World) (hr0_1 : Kd.C k123 w A0_1 l0_1.length l0_1) (hc0_1 : l0_1.length ≤ c0_1) (hr0_4 : Kd.C (Kd.int .i64) w A0_4 l0_4.length l0_4) (hc0_4 : l0_4.length ≤ c0_4) (hr0_5 : Kd.C k63 w A0_5 l0_5.length l0_5) (hc0_5 : l0_5.length ≤ c0_5) (hL : Lang.Laid w) (h : thresherlaw14_JobBytes.f k a0_0 l0_1 a0_2 a0_3 l0_4 l0_5 a0_6 = some r) :
  Calls Tryz.prog 5 #[.agg #[.int .i64 a0_0, .slice A0_1 l0_1.length c0_1, .int .i64 a0_2, .int .i64 a0_3, .slice A0_4 l0_4.length c0_4, .slice A0_5 l0_5.length c0_5, .string a0_6]] w fun e w' => e = .returned (.bool r) ∧ Below w.heap.size w w' := by
 have hu57 := Tryz.underlying57; have hu63 := Tryz.underlying63; have HR0_1 := Aside0.mk hr0_1; have HC0_1 := Aside0.mk hc0_1; clear hr0_1 hc0_1; have HR0_4 := Aside0.mk hr0_4; have HC0_4 := Aside0.mk hc0_4; clear hr0_4 hc0_4; have HR0_5 := Aside0.mk hr0_5; have HC0_5 := Aside0.mk hc0_5; clear hr0_5 hc0_5
 have HB := Aside0.mk (Below.refl w.heap.size w)
 have HLD := Aside0.mk hL; clear hL
 have H : ((thresherlaw14_Heavy.f k a0_0 l0_1 a0_2 a0_3 l0_4 l0_5 a0_6).bind fun t252 => (if t252 = true then (some true) else (thresherlaw14_JobBytes.l0 k (([a0_6] : List ByteArray)) 0 a0_0 l0_1 a0_2 a0_3 l0_4 l0_5 a0_6))) = some r := h
 clear h
 replace H := Option.bind_eq_some_iff.mp H
 obtain ⟨t252, A20, H⟩ := H
 replace H : (if t252 = true then (some true) else (thresherlaw14_JobBytes.l0 k (([a0_6] : List ByteArray)) 0 a0_0 l0_1 a0_2 a0_3 l0_4 l0_5 a0_6)) = some r := H
 have A2 := Aside0.mk A20; clear A20
 by_cases c3 : t252 = true
 ·
  subst c3
  have H1 : (some true) = some r := by rw [if_pos rfl] at H; exact H
  clear H; have H := H1; clear H1
  obtain rfl := Option.some.inj H
  go_enter Tryz.func5, Tryz.ntmps5
  go_wp2_with (first | ((with_reducible refine gate_dst (N := 1) rfl ?_); refine box_event ?hg (N := 1) ?hd (cs := #[.int .i64 a0_0, .slice A0_1 l0_1.length c0_1, .int .i64 a0_2, .int .i64 a0_3, .slice A0_4 l0_4.length c0_4, .slice A0_5 l0_5.length c0_5, .string a0_6]) (t := 57) ?hr ?_; (case hd => rfl); (case hg => rfl); (case hr => first | (go_simp; done) | (go_simp; rfl)); intro gb251 hg w4 hbox hb; have n0_ := Aside0.mk (below_step (by repeat (first | (with_reducible first | exact HB.out | apply below_alloc | apply pw_below_drewN | apply below_drew1) | exact HB.out)) hb); have n1_ := Aside0.mk (hbox); have n2_ := Aside0.mk ((by rw [hg]; exact (below_size (by repeat (first | (with_reducible first | exact HB.out | apply below_alloc | apply pw_below_drewN | apply below_drew1) | exact HB.out))) : w.heap.size ≤ gb251)); have n3_ := n2_; clear HB; have HB := n0_; have BK251 := n1_; have GW251 := n2_; have GE251 := n3_; clear n0_ n1_ n2_ n3_; clear hb hbox hg; obtain ⟨hcz5_0, hcz5_1, hcz5_2, hcz5_3, hcz5_4, hcz5_5, hcz5_6, hfz5_0, hfz5_1, hfz5_2, hfz5_3, hfz5_4, hfz5_5, hfz5_6⟩ := blkall_7 BK251.out) | ((with_reducible refine gate_callee (f := 23) rfl ?_); refine goesL_ (some 18) rfl rfl Tryz.func23 (by kernel_rfl) rfl #[.agg #[.int .i64 a0_0, .slice A0_1 l0_1.length c0_1, .int .i64 a0_2, .int .i64 a0_3, .slice A0_4 l0_4.length c0_4, .slice A0_5 l0_5.length c0_5, .string a0_6]] rfl (by (try simp only [List.map_toArray, List.map_cons, List.map_nil]); first | done | rfl | (simp only [List.length_drop, List.length_take]; rfl)) ?_; (with_reducible refine (thresherlaw14_Heavy.calls k a0_0 _ _ l0_1 a0_2 a0_3 _ _ l0_4 _ _ l0_5 a0_6 true _ ?side1 ?side2 ?side3 ?side4 ?side5 ?side6 A2.out).mono ?_); (case side1 => repeat (first | exact (Kd.C_below HR0_1.out HB.out) | (with_reducible refine Kd.C_alloc ?_ _) | (with_reducible refine Kd.C_drewN ?_ _) | (with_reducible refine Kd.C_drew ?_))); (case side2 => exact HC0_1.out); (case side3 => repeat (first | exact (Kd.C_below HR0_4.out HB.out) | (with_reducible refine Kd.C_alloc ?_ _) | (with_reducible refine Kd.C_drewN ?_ _) | (with_reducible refine Kd.C_drew ?_))); (case side4 => exact HC0_4.out); (case side5 => repeat (first | exact (Kd.C_below HR0_5.out HB.out) | (with_reducible refine Kd.C_alloc ?_ _) | (with_reducible refine Kd.C_drewN ?_ _) | (with_reducible refine Kd.C_drew ?_))); (case side6 => exact HC0_5.out); rintro e w6 ⟨rfl, hb⟩; refine ⟨_, rfl, ?_⟩; have n0_ := Aside0.mk (blk_below (blk_up BK251.out) hb); have n1_ := Aside0.mk (below_step (by repeat (first | (with_reducible first | exact HB.out | apply below_alloc | apply pw_below_drewN | apply below_drew1 | refine below_setA ?_ ‹_›) | exact HB.out)) hb); clear BK251; clear HB; have BK251 := n0_; have HB := n1_; clear n0_ n1_; (try clear hb); (try clear hb2); (try clear hk); (try clear hi)))
  go_ret
  exact ⟨by first | rfl | (simp [errW_none, errW_some] <;> rfl) | (simp [*, errW_none, errW_some] <;> rfl), by repeat (first | (with_reducible first | exact HB.out | apply below_alloc | apply pw_below_drewN | apply below_drew1 | refine below_setA ?_ ‹_›) | exact HB.out)⟩
 replace c3 := Bool.eq_false_iff.mpr c3
 subst c3
 have H1 : (thresherlaw14_JobBytes.l0 k (([a0_6] : List ByteArray)) 0 a0_0 l0_1 a0_2 a0_3 l0_4 l0_5 a0_6) = some r := by rw [if_neg (show ¬ (false = true) by decide)] at H; exact H
 clear H; have H := H1; clear H1
 obtain ⟨y253, hy253⟩ : ∃ y_ : List ByteArray, y_ = (([a0_6] : List ByteArray)) := ⟨_, rfl⟩
 replace H : (thresherlaw14_JobBytes.l0 k y253 0 a0_0 l0_1 a0_2 a0_3 l0_4 l0_5 a0_6) = some r := by first | (rw [hy253]; with_reducible exact H) | (have H2_ := (Option.bind_some _ _).symm.trans H; rw [hy253]; with_reducible exact H2_) | (have H2_ := (Option.bind_some _ _).symm.trans H; with_reducible exact H2_) | with_reducible exact H | (rw [hy253]; exact H) | exact H
 have Ny253 := Aside0.mk hy253; clear hy253
 have H' := Aside0.mk H
 clear H
 go_enter Tryz.func5, Tryz.ntmps5
 go_wp2_with (first | ((with_reducible refine gate_dst (N := 1) rfl ?_); refine box_event ?hg (N := 1) ?hd (cs := #[.int .i64 a0_0, .slice A0_1 l0_1.length c0_1, .int .i64 a0_2, .int .i64 a0_3, .slice A0_4 l0_4.length c0_4, .slice A0_5 l0_5.length c0_5, .string a0_6]) (t := 57) ?hr ?_; (case hd => rfl); (case hg => rfl); (case hr => first | (go_simp; done) | (go_simp; rfl)); intro gb251 hg w7 hbox hb; have n0_ := Aside0.mk (below_step (by repeat (first | (with_reducible first | exact HB.out | apply below_alloc | apply pw_below_drewN | apply below_drew1) | exact HB.out)) hb); have n1_ := Aside0.mk (hbox); have n2_ := Aside0.mk ((by rw [hg]; exact (below_size (by repeat (first | (with_reducible first | exact HB.out | apply below_alloc | apply pw_below_drewN | apply below_drew1) | exact HB.out))) : w.heap.size ≤ gb251)); have n3_ := n2_; clear HB; have HB := n0_; have BK251 := n1_; have GW251 := n2_; have GE251 := n3_; clear n0_ n1_ n2_ n3_; clear hb hbox hg; obtain ⟨hcz8_0, hcz8_1, hcz8_2, hcz8_3, hcz8_4, hcz8_5, hcz8_6, hfz8_0, hfz8_1, hfz8_2, hfz8_3, hfz8_4, hfz8_5, hfz8_6⟩ := blkall_7 BK251.out) | ((with_reducible refine gate_callee (f := 23) rfl ?_); refine goesL_ (some 18) rfl rfl Tryz.func23 (by kernel_rfl) rfl #[.agg #[.int .i64 a0_0, .slice A0_1 l0_1.length c0_1, .int .i64 a0_2, .int .i64 a0_3, .slice A0_4 l0_4.length c0_4, .slice A0_5 l0_5.length c0_5, .string a0_6]] rfl (by (try simp only [List.map_toArray, List.map_cons, List.map_nil]); first | done | rfl | (simp only [List.length_drop, List.length_take]; rfl)) ?_; (with_reducible refine (thresherlaw14_Heavy.calls k a0_0 _ _ l0_1 a0_2 a0_3 _ _ l0_4 _ _ l0_5 a0_6 false _ ?side1 ?side2 ?side3 ?side4 ?side5 ?side6 A2.out).mono ?_); (case side1 => repeat (first | exact (Kd.C_below HR0_1.out HB.out) | (with_reducible refine Kd.C_alloc ?_ _) | (with_reducible refine Kd.C_drewN ?_ _) | (with_reducible refine Kd.C_drew ?_))); (case side2 => exact HC0_1.out); (case side3 => repeat (first | exact (Kd.C_below HR0_4.out HB.out) | (with_reducible refine Kd.C_alloc ?_ _) | (with_reducible refine Kd.C_drewN ?_ _) | (with_reducible refine Kd.C_drew ?_))); (case side4 => exact HC0_4.out); (case side5 => repeat (first | exact (Kd.C_below HR0_5.out HB.out) | (with_reducible refine Kd.C_alloc ?_ _) | (with_reducible refine Kd.C_drewN ?_ _) | (with_reducible refine Kd.C_drew ?_))); (case side6 => exact HC0_5.out); rintro e w9 ⟨rfl, hb⟩; refine ⟨_, rfl, ?_⟩; have n0_ := Aside0.mk (blk_below (blk_up BK251.out) hb); have n1_ := Aside0.mk (below_step (by repeat (first | (with_reducible first | exact HB.out | apply below_alloc | apply pw_below_drewN | apply below_drew1 | refine below_setA ?_ ‹_›) | exact HB.out)) hb); clear BK251; clear HB; have BK251 := n0_; have HB := n1_; clear n0_ n1_; (try clear hb); (try clear hb2); (try clear hk); (try clear hi); obtain ⟨hcz10_0, hcz10_1, hcz10_2, hcz10_3, hcz10_4, hcz10_5, hcz10_6, hfz10_0, hfz10_1, hfz10_2, hfz10_3, hfz10_4, hfz10_5, hfz10_6⟩ := blkall_7 BK251.out) | ((with_reducible refine gate_dst (N := 21) rfl ?_); refine Kd.R_lit Kd.string _ 9 ?hg (N := 21) ?hd (xs := ([a0_6] : List ByteArray)) (inner := [.string a0_6]) (ok := fun _ => True) (okp := fun _ => True) ?hr ?hp (fun _ hk => hk) trivial (Below.refl _ _) (Nat.le_refl _) (by simp) ?_; (case hd => rfl); (case hg => rfl); (case hr => first | (go_simp; done) | (go_simp; rfl)); (case hp => exact (Reps.one (show Kd.M Kd.string _ _ _ a0_6 [.string a0_6] from rfl) (Reps.none _ _))); intro v254 w11 ho12 hb hg_ hnew_; clear hg_ hnew_; (first | rw [← Ny253.out] at ho12 | (simp only [Int.reduceToNat] at ho12; rw [← Ny253.out] at ho12)); have n0_ := Aside0.mk (Kd.R_lower ho12 (below_size (by repeat (first | (with_reducible first | exact HB.out | apply below_alloc | apply pw_below_drewN | apply below_drew1 | refine below_setA ?_ ‹_›) | exact HB.out)))); have n1_ := Aside0.mk (blk_below (blk_up BK251.out) hb); have n2_ := Aside0.mk (below_step (by repeat (first | (with_reducible first | exact HB.out | apply below_alloc | apply pw_below_drewN | apply below_drew1 | refine below_setA ?_ ‹_›) | exact HB.out)) hb); clear BK251; clear HB; have HO255 := n0_; have BK251 := n1_; have HB := n2_; clear n0_ n1_ n2_; clear hb ho12))
 go_loopg [3, 4] k (fun kq v3 v4 w' => ∃ (x3_1 : List ByteArray) (x4_1 : Int), v4 = .int .i64 x4_1 ∧ Aside0 (thresherlaw14_JobBytes.l0 kq x3_1 x4_1 a0_0 l0_1 a0_2 a0_3 l0_4 l0_5 a0_6 = some r) ∧ Aside0 (kq ≤ k) ∧ Aside0 (Kd.R Kd.string 9 w' w.heap.size (fun _ => True) v3 x3_1) ∧ Aside0 (w'.heap[gb251]? = some (.cells #[.int .i64 a0_0, (.slice A0_1 l0_1.length c0_1), .int .i64 a0_2, .int .i64 a0_3, (.slice A0_4 l0_4.length c0_4), (.slice A0_5 l0_5.length c0_5), .string a0_6] 57 (0, 0))) ∧ Aside0 (Below w.heap.size w w'))
 case atStart => exact ⟨(y253), (0), (by first | rfl | (simp; done) | (simp [*]; done)), H', ⟨Nat.le_refl _⟩, ⟨by (with_reducible repeat (first | apply Kd.R_alloc | apply Kd.R_drewN | apply Kd.R_drew)); exact HO255.out⟩, ⟨blk_up BK251.out⟩, ⟨by repeat (first | (with_reducible first | exact HB.out | apply below_alloc | apply pw_below_drewN | apply below_drew1 | refine below_setA ?_ ‹_›) | exact HB.out)⟩⟩
 case round =>
  clear H'
  (try clear c3); (try clear hcz10_0); (try clear hcz10_1); (try clear hcz10_2); (try clear hcz10_3); (try clear hcz10_4); (try clear hcz10_5); (try clear hcz10_6); (try clear hcz8_0); (try clear hcz8_1); (try clear hcz8_2); (try clear hcz8_3); (try clear hcz8_4); (try clear hcz8_5); (try clear hcz8_6); (try clear hfz10_0); (try clear hfz10_1); (try clear hfz10_2); (try clear hfz10_3); (try clear hfz10_4); (try clear hfz10_5); (try clear hfz10_6); (try clear hfz8_0); (try clear hfz8_1); (try clear hfz8_2); (try clear hfz8_3); (try clear hfz8_4); (try clear hfz8_5); (try clear hfz8_6)
  obtain ⟨x3_1, x4_1, rfl, HA, HK1, HO_3, BK251, HB⟩ := hrel
  cases gk with
  | zero => exact absurd HA.out (by simp [thresherlaw14_JobBytes.l0])
  | succ k1 =>
   have H := HA.out; clear HA
   simp only [thresherlaw14_JobBytes.l0] at H
   have HC13 := Aside0.mk H; clear H
   go_upto_region 5 with (fail)
   go_cut [30] (fun v30 wc => ∃ (kq : Nat) (x30_12 : Bool), v30 = .bool x30_12 ∧ Aside0 (thresherlaw14_JobBytes.j1 kq x3_1 x4_1 x30_12 a0_0 l0_1 a0_2 a0_3 l0_4 l0_5 a0_6 = some r) ∧ Aside0 (kq ≤ k1) ∧ Aside0 (Kd.R Kd.string 9 wc w.heap.size (fun _ => True) u3 x3_1) ∧ Aside0 (wc.heap[gb251]? = some (.cells #[.int .i64 a0_0, (.slice A0_1 l0_1.length c0_1), .int .i64 a0_2, .int .i64 a0_3, (.slice A0_4 l0_4.length c0_4), (.slice A0_5 l0_5.length c0_5), .string a0_6] 57 (0, 0))) ∧ Aside0 (Below w.heap.size w wc))
   case first =>
    have H := HC13.out; clear HC13
    by_cases c14 : x4_1 < (l0_5.length : Int)
    rotate_left
    ·
     rw [if_neg c14] at H
     have c14b0 : decide (x4_1 < (l0_5.length : Int)) = false := decide_eq_false c14
     clear c14
     (first | rw [c14b0] | (simp only [i64_w, i32_w]; rw [c14b0]) | skip)
     have H' := Aside0.mk H
     clear H
     obtain ⟨hcz16_0, hcz16_1, hcz16_2, hcz16_3, hcz16_4, hcz16_5, hcz16_6, hfz16_0, hfz16_1, hfz16_2, hfz16_3, hfz16_4, hfz16_5, hfz16_6⟩ := blkall_7 BK251.out
     go_wp2
     go_meet
     case rel => exact ⟨_, (false), (by first | rfl | (simp; done) | (simp [*]; done)), H', ⟨by have := HK1.out; first | omega | exact Nat.le_refl _⟩, ⟨by (with_reducible repeat (first | apply Kd.R_alloc | apply Kd.R_drewN | apply Kd.R_drew)); exact HO_3.out⟩, ⟨blk_up BK251.out⟩, ⟨by repeat (first | (with_reducible first | exact HB.out | apply below_alloc | apply pw_below_drewN | apply below_drew1 | refine below_setA ?_ ‹_›) | exact HB.out)⟩⟩
    rw [if_pos c14] at H
    have c14b0 : decide (x4_1 < (l0_5.length : Int)) = true := decide_eq_true c14
    clear c14
    (first | rw [c14b0] | (simp only [i64_w, i32_w]; rw [c14b0]) | skip)
    have H' := Aside0.mk H
    clear H
    obtain ⟨hcz15_0, hcz15_1, hcz15_2, hcz15_3, hcz15_4, hcz15_5, hcz15_6, hfz15_0, hfz15_1, hfz15_2, hfz15_3, hfz15_4, hfz15_5, hfz15_6⟩ := blkall_7 BK251.out
    go_wp2
    go_meet
    case rel => exact ⟨_, (decide (x4_1 < 6)), (by first | rfl | (simp; done) | (simp [*]; done)), H', ⟨by have := HK1.out; first | omega | exact Nat.le_refl _⟩, ⟨by (with_reducible repeat (first | apply Kd.R_alloc | apply Kd.R_drewN | apply Kd.R_drew)); exact HO_3.out⟩, ⟨blk_up BK251.out⟩, ⟨by repeat (first | (with_reducible first | exact HB.out | apply below_alloc | apply pw_below_drewN | apply below_drew1 | refine below_setA ?_ ‹_›) | exact HB.out)⟩⟩
   case rest =>
    clear HC13
    obtain ⟨kq, x30_12, rfl, HA, HJ12, HO_3, BK251, HB⟩ := hcut
    cases kq with
    | zero => exact absurd HA.out (by simp [thresherlaw14_JobBytes.j1])
    | succ kj12 =>
     have H := HA.out; clear HA
     simp only [thresherlaw14_JobBytes.j1] at H
     by_cases c17 : x30_12 = true
     rotate_left
     ·
      replace c17 := Bool.eq_false_iff.mpr c17
      subst c17
      have H1 : (thresherlaw14_JobBytes.l2 kj12 x3_1 0) = some r := by rw [if_neg (show ¬ (false = true) by decide)] at H; exact H
      clear H; have H := H1; clear H1
      have H' := Aside0.mk H
      clear H
      go_wp2
      go_loopg [12] kj12 (fun kq v12 w' => ∃ (x12_3 : Int), v12 = .int .i64 x12_3 ∧ Aside0 (thresherlaw14_JobBytes.l2 kq x3_1 x12_3 = some r) ∧ Aside0 (kq ≤ kj12) ∧ Aside0 (Kd.R Kd.string 9 w' w.heap.size (fun _ => True) u3 x3_1) ∧ Aside0 (w'.heap[gb251]? = some (.cells #[.int .i64 a0_0, (.slice A0_1 l0_1.length c0_1), .int .i64 a0_2, .int .i64 a0_3, (.slice A0_4 l0_4.length c0_4), (.slice A0_5 l0_5.length c0_5), .string a0_6] 57 (0, 0))) ∧ Aside0 (Below w.heap.size w w'))
      case atStart => exact ⟨(0), (by first | rfl | (simp; done) | (simp [*]; done)), H', ⟨Nat.le_refl _⟩, ⟨by (with_reducible repeat (first | apply Kd.R_alloc | apply Kd.R_drewN | apply Kd.R_drew)); exact HO_3.out⟩, ⟨blk_up BK251.out⟩, ⟨by repeat (first | (with_reducible first | exact HB.out | apply below_alloc | apply pw_below_drewN | apply below_drew1 | refine below_setA ?_ ‹_›) | exact HB.out)⟩⟩
      case round =>
       clear H'
       (try clear c17)
       obtain ⟨x12_3, rfl, HA, HK3, HO_3, BK251, HB⟩ := hrel
       cases gk with
       | zero => exact absurd HA.out (by simp [thresherlaw14_JobBytes.l2])
       | succ k3 =>
        have H := HA.out; clear HA
        simp only [thresherlaw14_JobBytes.l2] at H
        by_cases c95 : x12_3 < (x3_1.length : Int)
        rotate_left
        ·
         rw [if_neg c95] at H
         have c95b0 : decide (x12_3 < (x3_1.length : Int)) = false := decide_eq_false c95
         clear c95
         replace H := Option.bind_eq_some_iff.mp H
         obtain ⟨t290, A1430, H⟩ := H
         replace H : (some t290) = some r := H
         have A143 := Aside0.mk A1430; clear A1430
         obtain rfl := Option.some.inj H
         obtain ⟨Ao144, co144, eo144⟩ := Kd.R_slice HO_3.out
         subst eo144
         go_wp2_with (first | ((with_reducible refine gate_callee (f := 32) rfl ?_); refine goesL_ (some 150) rfl rfl Tryz.func32 (by kernel_rfl) rfl #[] rfl (by (try simp only [List.map_toArray, List.map_cons, List.map_nil]); first | done | rfl | (simp only [List.length_drop, List.length_take]; rfl)) ?_; (with_reducible refine (thresherlaw14_wakes.calls t290 _ (HLD.out.below (by repeat (first | (with_reducible first | exact HB.out | apply below_alloc | apply pw_below_drewN | apply below_drew1 | refine below_setA ?_ ‹_›) | exact HB.out))) A143.out).mono ?_); rintro e w145 ⟨rfl, hb⟩; refine ⟨_, rfl, ?_⟩; have n0_ := Aside0.mk (Kd.R_below (by (with_reducible repeat (first | apply Kd.R_alloc | apply Kd.R_drewN | apply Kd.R_drew)); exact HO_3.out) hb); have n1_ := Aside0.mk (blk_below (blk_up BK251.out) hb); have n2_ := Aside0.mk (below_step (by repeat (first | (with_reducible first | exact HB.out | apply below_alloc | apply pw_below_drewN | apply below_drew1 | refine below_setA ?_ ‹_›) | exact HB.out)) hb); clear HO_3; clear BK251; clear HB; have HO_3 := n0_; have BK251 := n1_; have HB := n2_; clear n0_ n1_ n2_; (try clear hb); (try clear hb2); (try clear hk); (try clear hi)))
         go_ret
         exact ⟨by first | rfl | (simp [errW_none, errW_some] <;> rfl) | (simp [*, errW_none, errW_some] <;> rfl), by repeat (first | (with_reducible first | exact HB.out | apply below_alloc | apply pw_below_drewN | apply below_drew1 | refine below_setA ?_ ‹_›) | exact HB.out)⟩
        rw [if_pos c95] at H
        have c95b0 : decide (x12_3 < (x3_1.length : Int)) = true := decide_eq_true c95
        clear c95
        by_cases c96 : 0 ≤ x12_3
        rotate_left
        ·
         rw [if_neg c96] at H
         exact absurd H (by simp)
        rw [if_pos c96] at H
        have c96b0 : decide (0 ≤ x12_3) = true := decide_eq_true c96
        clear c96
        replace H := Option.bind_eq_some_iff.mp H
        obtain ⟨⟨t292, t293, t294, t295, t296, t297, t300, t301⟩, A970, H⟩ := H
        replace H : ((thresherref13_Take.f k3 (rdOf ByteArray.empty x3_1 x12_3)).bind fun bt304 => ((thresherlaw14_num.f t301).bind fun t315 => (if t315 = bt304.2.2.2.2.2.2.2 then ((thresherref0_EqJob.f k3 t292 t293 t294 t295 t296 t297 t300 bt304.1 bt304.2.1 bt304.2.2.1 bt304.2.2.2.1 bt304.2.2.2.2.1 bt304.2.2.2.2.2.1 bt304.2.2.2.2.2.2.1).bind fun t316 => (if t316 = true then (thresherlaw14_JobBytes.l2 k3 x3_1 (wrap64 (x12_3 + 1))) else (some false))) else (some false)))) = some r := H
        have A97 := Aside0.mk A970; clear A970
        replace H := Option.bind_eq_some_iff.mp H
        obtain ⟨⟨t304, t305, t306, t307, t308, t309, t312, t313⟩, A980, H⟩ := H
        replace H : ((thresherlaw14_num.f t301).bind fun t315 => (if t315 = t313 then ((thresherref0_EqJob.f k3 t292 t293 t294 t295 t296 t297 t300 t304 t305 t306 t307 t308 t309 t312).bind fun t316 => (if t316 = true then (thresherlaw14_JobBytes.l2 k3 x3_1 (wrap64 (x12_3 + 1))) else (some false))) else (some false))) = some r := H
        have A98 := Aside0.mk A980; clear A980
        replace H := Option.bind_eq_some_iff.mp H
        obtain ⟨t315, A990, H⟩ := H
        replace H : (if t315 = t313 then ((thresherref0_EqJob.f k3 t292 t293 t294 t295 t296 t297 t300 t304 t305 t306 t307 t308 t309 t312).bind fun t316 => (if t316 = true then (thresherlaw14_JobBytes.l2 k3 x3_1 (wrap64 (x12_3 + 1))) else (some false))) else (some false)) = some r := H
        have A99 := Aside0.mk A990; clear A990
        by_cases c100 : t315 = t313
        rotate_left
        ·
         rw [if_neg c100] at H
         have c100b0 : (t315 == t313) = false := beq_eq_false_iff_ne.mpr c100
         have c100b1 : (t315 != t313) = true := bne_iff_ne.mpr c100
         obtain rfl := Option.some.inj H
         obtain ⟨Ao131, co131, eo131⟩ := Kd.R_slice HO_3.out
         subst eo131
         have p291 : 0 ≤ (x12_3 : Int) := of_decide_eq_true (by first | (with_reducible assumption) | assumption)
         have q291 : x12_3 < (x3_1.length : Int) := of_decide_eq_true (by first | (with_reducible assumption) | assumption)
         obtain ⟨ad291, e291, hx291_0⟩ := Kd.at_string (Kd.R_reads' HO_3.out).2.2 x12_3 p291 q291
         cases e291
         replace p291 := eq_true p291
         replace q291 := eq_true q291
         go_wp2_with (first | ((with_reducible refine gate_callee (f := 29) rfl ?_); refine goesL_ (some 129) rfl rfl Tryz.func29 (by kernel_rfl) rfl #[.string (rdOf ByteArray.empty x3_1 x12_3)] rfl (by (try simp only [List.map_toArray, List.map_cons, List.map_nil]); first | done | rfl | (simp only [List.length_drop, List.length_take]; rfl)) ?_; (with_reducible refine (job_Take.calls k3 (rdOf ByteArray.empty x3_1 x12_3) t292 t293 t294 t295 t296 t297 t300 t301 _ A97.out).mono ?_); rintro e w132 ⟨v298, rfl, ho0, hb⟩; refine ⟨_, rfl, ?_⟩; have n0_ := Aside0.mk (Kd.R_below (by (with_reducible repeat (first | apply Kd.R_alloc | apply Kd.R_drewN | apply Kd.R_drew)); exact HO_3.out) hb); have n1_ := Aside0.mk (Kd.R_lower ho0 (below_size (by repeat (first | (with_reducible first | exact HB.out | apply below_alloc | apply pw_below_drewN | apply below_drew1 | refine below_setA ?_ ‹_›) | exact HB.out)))); have n2_ := Aside0.mk (blk_below (blk_up BK251.out) hb); have n3_ := Aside0.mk (below_step (by repeat (first | (with_reducible first | exact HB.out | apply below_alloc | apply pw_below_drewN | apply below_drew1 | refine below_setA ?_ ‹_›) | exact HB.out)) hb); clear HO_3; clear BK251; clear HB; have HO_3 := n0_; have HO299 := n1_; have BK251 := n2_; have HB := n3_; clear n0_ n1_ n2_ n3_; (try clear hb); (try clear hb2); (try clear hk); (try clear hi); (try clear ho0)) | ((with_reducible refine gate_dst (N := 13) rfl ?_); refine box_event ?hg (N := 13) ?hd (cs := #[.int .i64 0, .string (⟨#[]⟩ : ByteArray), .int .i64 0, .int .i64 0, .int .i64 0, .slice none 0 0, .int .i64 0]) (t := 63) ?hr ?_; (case hd => rfl); (case hg => rfl); (case hr => first | (go_simp; done) | (go_simp; rfl)); intro gb302 hg w133 hbox hb; have n0_ := Aside0.mk (Kd.R_below (by (with_reducible repeat (first | apply Kd.R_alloc | apply Kd.R_drewN | apply Kd.R_drew)); exact HO_3.out) hb); have n1_ := Aside0.mk (Kd.R_below (by (with_reducible repeat (first | apply Kd.R_alloc | apply Kd.R_drewN | apply Kd.R_drew)); exact HO299.out) hb); have n2_ := Aside0.mk (blk_below (blk_up BK251.out) hb); have n3_ := Aside0.mk (below_step (by repeat (first | (with_reducible first | exact HB.out | apply below_alloc | apply pw_below_drewN | apply below_drew1 | refine below_setA ?_ ‹_›) | exact HB.out)) hb); have n4_ := Aside0.mk (hbox); have n5_ := Aside0.mk ((by rw [hg]; exact (below_size (by repeat (first | (with_reducible first | exact HB.out | apply below_alloc | apply pw_below_drewN | apply below_drew1 | refine below_setA ?_ ‹_›) | exact HB.out))) : w.heap.size ≤ gb302)); have n6_ := n5_; have n7_ := Aside0.mk ((by rw [hg]; exact Nat.ne_of_lt (blk_lt (blk_up BK251.out)) : gb251 ≠ gb302)); have n8_ := Aside0.mk ((by rw [hg]; exact Nat.ne_of_gt (blk_lt (blk_up BK251.out)) : gb302 ≠ gb251)); clear HO_3; clear HO299; clear BK251; clear HB; have HO_3 := n0_; have HO299 := n1_; have BK251 := n2_; have HB := n3_; have BK302 := n4_; have GW302 := n5_; have GE302 := n6_; have NB251_302 := n7_; have NB302_251 := n8_; clear n0_ n1_ n2_ n3_ n4_ n5_ n6_ n7_ n8_; clear hb hbox hg; have hnb134 := NB302_251.out; have hnc134 := NB251_302.out; obtain ⟨hcz135_0, hcz135_1, hcz135_2, hcz135_3, hcz135_4, hcz135_5, hcz135_6, hfz135_0, hfz135_1, hfz135_2, hfz135_3, hfz135_4, hfz135_5, hfz135_6⟩ := blkall_7 BK302.out; obtain ⟨Ao136, co136, eo136⟩ := Kd.R_slice HO299.out; subst eo136; have p303 : 0 ≤ (x12_3 : Int) := of_decide_eq_true (by first | (with_reducible assumption) | assumption); have q303 : x12_3 < (x3_1.length : Int) := of_decide_eq_true (by first | (with_reducible assumption) | assumption); obtain ⟨ad303, e303, hx303_0⟩ := Kd.at_string (Kd.R_reads' HO_3.out).2.2 x12_3 p303 q303; obtain rfl : ad291 = ad303 := (by injection e303); have hn303_0 : ad291.block ≠ gb302 := Kd.own_blk (Kd.R_ne HO_3.out BK302.out (by decide)); have hn303_1 : ad291.block ≠ gb302 := Kd.own_blk (Kd.R_ne HO_3.out BK302.out (by decide)); have hn303_2 : ad291.block ≠ gb302 := Kd.own_blk (Kd.R_ne HO_3.out BK302.out (by decide)); have hn303_3 : ad291.block ≠ gb302 := Kd.own_blk (Kd.R_ne HO_3.out BK302.out (by decide)); have hn303_4 : ad291.block ≠ gb302 := Kd.own_blk (Kd.R_ne HO_3.out BK302.out (by decide)); have hn303_5 : ad291.block ≠ gb302 := Kd.own_blk (Kd.R_ne HO_3.out BK302.out (by decide)); have hn303_6 : ad291.block ≠ gb302 := Kd.own_blk (Kd.R_ne HO_3.out BK302.out (by decide)); replace hx303_0 := (cell_far (p := ⟨gb302, 0, none⟩) (by first | (rw [add_block]; exact hn303_0) | (show (Addr.add _ _).block ≠ _; rw [add_block]; exact hn303_0) | exact hn303_0) (.int .i64 t292)).trans hx303_0; replace hx303_0 := (cell_far (p := ⟨gb302, 1, none⟩) (by first | (rw [add_block]; exact hn303_1) | (show (Addr.add _ _).block ≠ _; rw [add_block]; exact hn303_1) | exact hn303_1) (.string t293)).trans hx303_0; replace hx303_0 := (cell_far (p := ⟨gb302, 2, none⟩) (by first | (rw [add_block]; exact hn303_2) | (show (Addr.add _ _).block ≠ _; rw [add_block]; exact hn303_2) | exact hn303_2) (.int .i64 t294)).trans hx303_0; replace hx303_0 := (cell_far (p := ⟨gb302, 3, none⟩) (by first | (rw [add_block]; exact hn303_3) | (show (Addr.add _ _).block ≠ _; rw [add_block]; exact hn303_3) | exact hn303_3) (.int .i64 t295)).trans hx303_0; replace hx303_0 := (cell_far (p := ⟨gb302, 4, none⟩) (by first | (rw [add_block]; exact hn303_4) | (show (Addr.add _ _).block ≠ _; rw [add_block]; exact hn303_4) | exact hn303_4) (.int .i64 t296)).trans hx303_0; replace hx303_0 := (cell_far (p := ⟨gb302, 5, none⟩) (by first | (rw [add_block]; exact hn303_5) | (show (Addr.add _ _).block ≠ _; rw [add_block]; exact hn303_5) | exact hn303_5) (.slice Ao136 t297.length co136)).trans hx303_0; replace hx303_0 := (cell_far (p := ⟨gb302, 6, none⟩) (by first | (rw [add_block]; exact hn303_6) | (show (Addr.add _ _).block ≠ _; rw [add_block]; exact hn303_6) | exact hn303_6) (.int .i64 t300)).trans hx303_0; clear hn303_0; clear hn303_1; clear hn303_2; clear hn303_3; clear hn303_4; clear hn303_5; clear hn303_6; replace p303 := eq_true p303; replace q303 := eq_true q303) | ((with_reducible refine gate_callee (f := 31) rfl ?_); refine goesL_ (some 137) rfl rfl Tryz.func31 (by kernel_rfl) rfl #[.string (rdOf ByteArray.empty x3_1 x12_3)] rfl (by (try simp only [List.map_toArray, List.map_cons, List.map_nil]); first | done | rfl | (simp only [List.length_drop, List.length_take]; rfl)) ?_; (with_reducible refine (thresherref13_Take.calls k3 (rdOf ByteArray.empty x3_1 x12_3) t304 t305 t306 t307 t308 t309 t312 t313 _ A98.out).mono ?_); rintro e w137 ⟨v310, rfl, ho0, hb⟩; refine ⟨_, rfl, ?_⟩; have n0_ := Aside0.mk (Kd.R_below (by (with_reducible repeat (first | apply Kd.R_alloc | apply Kd.R_drewN | apply Kd.R_drew)); exact (Kd.R_mono (Kd.R_far (p := ⟨gb302, 6, none⟩) (Kd.R_far (p := ⟨gb302, 5, none⟩) (Kd.R_far (p := ⟨gb302, 4, none⟩) (Kd.R_far (p := ⟨gb302, 3, none⟩) (Kd.R_far (p := ⟨gb302, 2, none⟩) (Kd.R_far (p := ⟨gb302, 1, none⟩) (Kd.R_far (p := ⟨gb302, 0, none⟩) (Kd.R_types HO_3.out BK302.out (by decide)) (fun _ hk => hk.2) (.int .i64 t292)) (fun _ hk => hk.2) (.string t293)) (fun _ hk => hk.2) (.int .i64 t294)) (fun _ hk => hk.2) (.int .i64 t295)) (fun _ hk => hk.2) (.int .i64 t296)) (fun _ hk => hk.2) (.slice Ao136 t297.length co136)) (fun _ hk => hk.2) (.int .i64 t300)) (fun _ h_ => h_.1))) hb); have n1_ := Aside0.mk (Kd.R_elder' (by (with_reducible repeat (first | apply Kd.R_alloc | apply Kd.R_drewN | apply Kd.R_drew)); exact (Kd.R_mono (Kd.R_far (p := ⟨gb302, 6, none⟩) (Kd.R_far (p := ⟨gb302, 5, none⟩) (Kd.R_far (p := ⟨gb302, 4, none⟩) (Kd.R_far (p := ⟨gb302, 3, none⟩) (Kd.R_far (p := ⟨gb302, 2, none⟩) (Kd.R_far (p := ⟨gb302, 1, none⟩) (Kd.R_far (p := ⟨gb302, 0, none⟩) (Kd.R_types HO299.out BK302.out (by decide)) (fun _ hk => hk.2) (.int .i64 t292)) (fun _ hk => hk.2) (.string t293)) (fun _ hk => hk.2) (.int .i64 t294)) (fun _ hk => hk.2) (.int .i64 t295)) (fun _ hk => hk.2) (.int .i64 t296)) (fun _ hk => hk.2) (.slice Ao136 t297.length co136)) (fun _ hk => hk.2) (.int .i64 t300)) (fun _ h_ => h_.1))) (Kd.R_base ho0) hb); have n2_ := Aside0.mk (Kd.R_lower (Kd.R_new' ho0 (Kd.R_lt (by (with_reducible repeat (first | apply Kd.R_alloc | apply Kd.R_drewN | apply Kd.R_drew)); exact (Kd.R_mono (Kd.R_far (p := ⟨gb302, 6, none⟩) (Kd.R_far (p := ⟨gb302, 5, none⟩) (Kd.R_far (p := ⟨gb302, 4, none⟩) (Kd.R_far (p := ⟨gb302, 3, none⟩) (Kd.R_far (p := ⟨gb302, 2, none⟩) (Kd.R_far (p := ⟨gb302, 1, none⟩) (Kd.R_far (p := ⟨gb302, 0, none⟩) (Kd.R_types HO299.out BK302.out (by decide)) (fun _ hk => hk.2) (.int .i64 t292)) (fun _ hk => hk.2) (.string t293)) (fun _ hk => hk.2) (.int .i64 t294)) (fun _ hk => hk.2) (.int .i64 t295)) (fun _ hk => hk.2) (.int .i64 t296)) (fun _ hk => hk.2) (.slice Ao136 t297.length co136)) (fun _ hk => hk.2) (.int .i64 t300)) (fun _ h_ => h_.1))))) (below_size (by repeat (first | (with_reducible first | exact HB.out | apply below_alloc | apply pw_below_drewN | apply below_drew1 | refine below_setA ?_ ‹_›) | exact HB.out)))); have n3_ := Aside0.mk (blk_below (g := gb251) (o := .cells #[.int .i64 a0_0, .slice A0_1 l0_1.length c0_1, .int .i64 a0_2, .int .i64 a0_3, .slice A0_4 l0_4.length c0_4, .slice A0_5 l0_5.length c0_5, .string a0_6] 57 (0, 0)) (by (with_reducible repeat (first | refine blk_drewN ?_ _ | refine blk_drew ?_ | refine blk_alloc ?_ _ | refine blk_far ?_ NB251_302.out _)); exact BK251.out) hb); have n4_ := Aside0.mk (blk_below (g := gb302) (o := .cells #[.int .i64 t292, .string t293, .int .i64 t294, .int .i64 t295, .int .i64 t296, .slice Ao136 t297.length co136, .int .i64 t300] 63 (0, 0)) (by refine blk_up ?_; refine blk_put (cs := #[.int .i64 t292, .string t293, .int .i64 t294, .int .i64 t295, .int .i64 t296, .slice Ao136 t297.length co136, .int .i64 0]) ?_ 6 _ rfl; refine blk_up ?_; refine blk_put (cs := #[.int .i64 t292, .string t293, .int .i64 t294, .int .i64 t295, .int .i64 t296, .slice none 0 0, .int .i64 0]) ?_ 5 _ rfl; refine blk_up ?_; refine blk_put (cs := #[.int .i64 t292, .string t293, .int .i64 t294, .int .i64 t295, .int .i64 0, .slice none 0 0, .int .i64 0]) ?_ 4 _ rfl; refine blk_up ?_; refine blk_put (cs := #[.int .i64 t292, .string t293, .int .i64 t294, .int .i64 0, .int .i64 0, .slice none 0 0, .int .i64 0]) ?_ 3 _ rfl; refine blk_up ?_; refine blk_put (cs := #[.int .i64 t292, .string t293, .int .i64 0, .int .i64 0, .int .i64 0, .slice none 0 0, .int .i64 0]) ?_ 2 _ rfl; refine blk_up ?_; refine blk_put (cs := #[.int .i64 t292, .string (⟨#[]⟩ : ByteArray), .int .i64 0, .int .i64 0, .int .i64 0, .slice none 0 0, .int .i64 0]) ?_ 1 _ rfl; refine blk_up ?_; refine blk_put (cs := #[.int .i64 0, .string (⟨#[]⟩ : ByteArray), .int .i64 0, .int .i64 0, .int .i64 0, .slice none 0 0, .int .i64 0]) ?_ 0 _ rfl; refine blk_up ?_; exact BK302.out) hb); have n5_ := Aside0.mk (below_step (by repeat (first | (with_reducible first | exact HB.out | apply below_alloc | apply pw_below_drewN | apply below_drew1 | refine below_setA ?_ ‹_›) | exact HB.out)) hb); clear HO_3; clear HO299; clear BK251; clear BK302; clear HB; have HO_3 := n0_; have HO299 := n1_; have HO311 := n2_; have BK251 := n3_; have BK302 := n4_; have HB := n5_; clear n0_ n1_ n2_ n3_ n4_ n5_; (try clear hb); (try clear hb2); (try clear hk); (try clear hi); (try clear ho0)) | ((with_reducible refine gate_dst (N := 15) rfl ?_); refine box_event ?hg (N := 15) ?hd (cs := #[.int .i64 0, .string (⟨#[]⟩ : ByteArray), .int .i64 0, .int .i64 0, .int .i64 0, .slice none 0 0, .int .i64 0]) (t := 63) ?hr ?_; (case hd => rfl); (case hg => rfl); (case hr => first | (go_simp; done) | (go_simp; rfl)); intro gb314 hg w138 hbox hb; have n0_ := Aside0.mk (Kd.R_below (by (with_reducible repeat (first | apply Kd.R_alloc | apply Kd.R_drewN | apply Kd.R_drew)); exact HO_3.out) hb); have n1_ := Aside0.mk (Kd.R_below (by (with_reducible repeat (first | apply Kd.R_alloc | apply Kd.R_drewN | apply Kd.R_drew)); exact HO299.out) hb); have n2_ := Aside0.mk (Kd.R_below (by (with_reducible repeat (first | apply Kd.R_alloc | apply Kd.R_drewN | apply Kd.R_drew)); exact HO311.out) hb); have n3_ := Aside0.mk (blk_below (blk_up BK251.out) hb); have n4_ := Aside0.mk (blk_below (blk_up BK302.out) hb); have n5_ := Aside0.mk (below_step (by repeat (first | (with_reducible first | exact HB.out | apply below_alloc | apply pw_below_drewN | apply below_drew1 | refine below_setA ?_ ‹_›) | exact HB.out)) hb); have n6_ := Aside0.mk (hbox); have n7_ := Aside0.mk ((by rw [hg]; exact (below_size (by repeat (first | (with_reducible first | exact HB.out | apply below_alloc | apply pw_below_drewN | apply below_drew1 | refine below_setA ?_ ‹_›) | exact HB.out))) : w.heap.size ≤ gb314)); have n8_ := n7_; have n9_ := Aside0.mk ((by rw [hg]; exact Nat.ne_of_lt (blk_lt (blk_up BK251.out)) : gb251 ≠ gb314)); have n10_ := Aside0.mk ((by rw [hg]; exact Nat.ne_of_gt (blk_lt (blk_up BK251.out)) : gb314 ≠ gb251)); have n11_ := Aside0.mk ((by rw [hg]; exact Nat.ne_of_lt (blk_lt (blk_up BK302.out)) : gb302 ≠ gb314)); have n12_ := Aside0.mk ((by rw [hg]; exact Nat.ne_of_gt (blk_lt (blk_up BK302.out)) : gb314 ≠ gb302)); clear HO_3; clear HO299; clear HO311; clear BK251; clear BK302; clear HB; have HO_3 := n0_; have HO299 := n1_; have HO311 := n2_; have BK251 := n3_; have BK302 := n4_; have HB := n5_; have BK314 := n6_; have GW314 := n7_; have GE314 := n8_; have NB251_314 := n9_; have NB314_251 := n10_; have NB302_314 := n11_; have NB314_302 := n12_; clear n0_ n1_ n2_ n3_ n4_ n5_ n6_ n7_ n8_ n9_ n10_ n11_ n12_; clear hb hbox hg; have hnb139 := NB314_251.out; have hnc139 := NB251_314.out; have hnb140 := NB314_302.out; have hnc140 := NB302_314.out; obtain ⟨hcz141_0, hcz141_1, hcz141_2, hcz141_3, hcz141_4, hcz141_5, hcz141_6, hfz141_0, hfz141_1, hfz141_2, hfz141_3, hfz141_4, hfz141_5, hfz141_6⟩ := blkall_7 BK314.out; obtain ⟨Ao142, co142, eo142⟩ := Kd.R_slice HO311.out; subst eo142) | ((with_reducible refine gate_callee (f := 27) rfl ?_); refine goesL_ (some 141) rfl rfl Tryz.func27 (by kernel_rfl) rfl #[.int .i64 t301] rfl (by (try simp only [List.map_toArray, List.map_cons, List.map_nil]); first | done | rfl | (simp only [List.length_drop, List.length_take]; rfl)) ?_; (with_reducible refine (thresherlaw14_num.calls t301 t315 _ A99.out).mono ?_); rintro e w' ⟨rfl, ⟨nd, rfl⟩⟩; refine ⟨_, rfl, ?_⟩))
         go_ret
         exact ⟨by first | rfl | (simp [errW_none, errW_some] <;> rfl) | (simp [*, errW_none, errW_some] <;> rfl), by repeat (first | (with_reducible first | exact HB.out | apply below_alloc | apply pw_below_drewN | apply below_drew1 | refine below_setA ?_ ‹_›) | exact HB.out)⟩
        rw [if_pos c100] at H
        have c100b0 : (t315 == t313) = true := beq_iff_eq.mpr c100
        have c100b1 : (t315 != t313) = false := bne_eq_false_iff_eq.mpr c100
        clear c100
        replace H := Option.bind_eq_some_iff.mp H
        obtain ⟨t316, A1010, H⟩ := H
        replace H : (if t316 = true then (thresherlaw14_JobBytes.l2 k3 x3_1 (wrap64 (x12_3 + 1))) else (some false)) = some r := H
        have A101 := Aside0.mk A1010; clear A1010
        by_cases c102 : t316 = true
        rotate_left
        ·
         replace c102 := Bool.eq_false_iff.mpr c102
         subst c102
         have H1 : (some false) = some r := by rw [if_neg (show ¬ (false = true) by decide)] at H; exact H
         clear H; have H := H1; clear H1
         obtain rfl := Option.some.inj H
         obtain ⟨Ao117, co117, eo117⟩ := Kd.R_slice HO_3.out
         subst eo117
         have p291 : 0 ≤ (x12_3 : Int) := of_decide_eq_true (by first | (with_reducible assumption) | assumption)
         have q291 : x12_3 < (x3_1.length : Int) := of_decide_eq_true (by first | (with_reducible assumption) | assumption)
         obtain ⟨ad291, e291, hx291_0⟩ := Kd.at_string (Kd.R_reads' HO_3.out).2.2 x12_3 p291 q291
         cases e291
         replace p291 := eq_true p291
         replace q291 := eq_true q291
         go_wp2_with (first | ((with_reducible refine gate_callee (f := 29) rfl ?_); refine goesL_ (some 129) rfl rfl Tryz.func29 (by kernel_rfl) rfl #[.string (rdOf ByteArray.empty x3_1 x12_3)] rfl (by (try simp only [List.map_toArray, List.map_cons, List.map_nil]); first | done | rfl | (simp only [List.length_drop, List.length_take]; rfl)) ?_; (with_reducible refine (job_Take.calls k3 (rdOf ByteArray.empty x3_1 x12_3) t292 t293 t294 t295 t296 t297 t300 t301 _ A97.out).mono ?_); rintro e w118 ⟨v298, rfl, ho0, hb⟩; refine ⟨_, rfl, ?_⟩; have n0_ := Aside0.mk (Kd.R_below (by (with_reducible repeat (first | apply Kd.R_alloc | apply Kd.R_drewN | apply Kd.R_drew)); exact HO_3.out) hb); have n1_ := Aside0.mk (Kd.R_lower ho0 (below_size (by repeat (first | (with_reducible first | exact HB.out | apply below_alloc | apply pw_below_drewN | apply below_drew1 | refine below_setA ?_ ‹_›) | exact HB.out)))); have n2_ := Aside0.mk (blk_below (blk_up BK251.out) hb); have n3_ := Aside0.mk (below_step (by repeat (first | (with_reducible first | exact HB.out | apply below_alloc | apply pw_below_drewN | apply below_drew1 | refine below_setA ?_ ‹_›) | exact HB.out)) hb); clear HO_3; clear BK251; clear HB; have HO_3 := n0_; have HO299 := n1_; have BK251 := n2_; have HB := n3_; clear n0_ n1_ n2_ n3_; (try clear hb); (try clear hb2); (try clear hk); (try clear hi); (try clear ho0)) | ((with_reducible refine gate_dst (N := 13) rfl ?_); refine box_event ?hg (N := 13) ?hd (cs := #[.int .i64 0, .string (⟨#[]⟩ : ByteArray), .int .i64 0, .int .i64 0, .int .i64 0, .slice none 0 0, .int .i64 0]) (t := 63) ?hr ?_; (case hd => rfl); (case hg => rfl); (case hr => first | (go_simp; done) | (go_simp; rfl)); intro gb302 hg w119 hbox hb; have n0_ := Aside0.mk (Kd.R_below (by (with_reducible repeat (first | apply Kd.R_alloc | apply Kd.R_drewN | apply Kd.R_drew)); exact HO_3.out) hb); have n1_ := Aside0.mk (Kd.R_below (by (with_reducible repeat (first | apply Kd.R_alloc | apply Kd.R_drewN | apply Kd.R_drew)); exact HO299.out) hb); have n2_ := Aside0.mk (blk_below (blk_up BK251.out) hb); have n3_ := Aside0.mk (below_step (by repeat (first | (with_reducible first | exact HB.out | apply below_alloc | apply pw_below_drewN | apply below_drew1 | refine below_setA ?_ ‹_›) | exact HB.out)) hb); have n4_ := Aside0.mk (hbox); have n5_ := Aside0.mk ((by rw [hg]; exact (below_size (by repeat (first | (with_reducible first | exact HB.out | apply below_alloc | apply pw_below_drewN | apply below_drew1 | refine below_setA ?_ ‹_›) | exact HB.out))) : w.heap.size ≤ gb302)); have n6_ := n5_; have n7_ := Aside0.mk ((by rw [hg]; exact Nat.ne_of_lt (blk_lt (blk_up BK251.out)) : gb251 ≠ gb302)); have n8_ := Aside0.mk ((by rw [hg]; exact Nat.ne_of_gt (blk_lt (blk_up BK251.out)) : gb302 ≠ gb251)); clear HO_3; clear HO299; clear BK251; clear HB; have HO_3 := n0_; have HO299 := n1_; have BK251 := n2_; have HB := n3_; have BK302 := n4_; have GW302 := n5_; have GE302 := n6_; have NB251_302 := n7_; have NB302_251 := n8_; clear n0_ n1_ n2_ n3_ n4_ n5_ n6_ n7_ n8_; clear hb hbox hg; have hnb120 := NB302_251.out; have hnc120 := NB251_302.out; obtain ⟨hcz121_0, hcz121_1, hcz121_2, hcz121_3, hcz121_4, hcz121_5, hcz121_6, hfz121_0, hfz121_1, hfz121_2, hfz121_3, hfz121_4, hfz121_5, hfz121_6⟩ := blkall_7 BK302.out; obtain ⟨Ao122, co122, eo122⟩ := Kd.R_slice HO299.out; subst eo122; have p303 : 0 ≤ (x12_3 : Int) := of_decide_eq_true (by first | (with_reducible assumption) | assumption); have q303 : x12_3 < (x3_1.length : Int) := of_decide_eq_true (by first | (with_reducible assumption) | assumption); obtain ⟨ad303, e303, hx303_0⟩ := Kd.at_string (Kd.R_reads' HO_3.out).2.2 x12_3 p303 q303; obtain rfl : ad291 = ad303 := (by injection e303); have hn303_0 : ad291.block ≠ gb302 := Kd.own_blk (Kd.R_ne HO_3.out BK302.out (by decide)); have hn303_1 : ad291.block ≠ gb302 := Kd.own_blk (Kd.R_ne HO_3.out BK302.out (by decide)); have hn303_2 : ad291.block ≠ gb302 := Kd.own_blk (Kd.R_ne HO_3.out BK302.out (by decide)); have hn303_3 : ad291.block ≠ gb302 := Kd.own_blk (Kd.R_ne HO_3.out BK302.out (by decide)); have hn303_4 : ad291.block ≠ gb302 := Kd.own_blk (Kd.R_ne HO_3.out BK302.out (by decide)); have hn303_5 : ad291.block ≠ gb302 := Kd.own_blk (Kd.R_ne HO_3.out BK302.out (by decide)); have hn303_6 : ad291.block ≠ gb302 := Kd.own_blk (Kd.R_ne HO_3.out BK302.out (by decide)); replace hx303_0 := (cell_far (p := ⟨gb302, 0, none⟩) (by first | (rw [add_block]; exact hn303_0) | (show (Addr.add _ _).block ≠ _; rw [add_block]; exact hn303_0) | exact hn303_0) (.int .i64 t292)).trans hx303_0; replace hx303_0 := (cell_far (p := ⟨gb302, 1, none⟩) (by first | (rw [add_block]; exact hn303_1) | (show (Addr.add _ _).block ≠ _; rw [add_block]; exact hn303_1) | exact hn303_1) (.string t293)).trans hx303_0; replace hx303_0 := (cell_far (p := ⟨gb302, 2, none⟩) (by first | (rw [add_block]; exact hn303_2) | (show (Addr.add _ _).block ≠ _; rw [add_block]; exact hn303_2) | exact hn303_2) (.int .i64 t294)).trans hx303_0; replace hx303_0 := (cell_far (p := ⟨gb302, 3, none⟩) (by first | (rw [add_block]; exact hn303_3) | (show (Addr.add _ _).block ≠ _; rw [add_block]; exact hn303_3) | exact hn303_3) (.int .i64 t295)).trans hx303_0; replace hx303_0 := (cell_far (p := ⟨gb302, 4, none⟩) (by first | (rw [add_block]; exact hn303_4) | (show (Addr.add _ _).block ≠ _; rw [add_block]; exact hn303_4) | exact hn303_4) (.int .i64 t296)).trans hx303_0; replace hx303_0 := (cell_far (p := ⟨gb302, 5, none⟩) (by first | (rw [add_block]; exact hn303_5) | (show (Addr.add _ _).block ≠ _; rw [add_block]; exact hn303_5) | exact hn303_5) (.slice Ao122 t297.length co122)).trans hx303_0; replace hx303_0 := (cell_far (p := ⟨gb302, 6, none⟩) (by first | (rw [add_block]; exact hn303_6) | (show (Addr.add _ _).block ≠ _; rw [add_block]; exact hn303_6) | exact hn303_6) (.int .i64 t300)).trans hx303_0; clear hn303_0; clear hn303_1; clear hn303_2; clear hn303_3; clear hn303_4; clear hn303_5; clear hn303_6; replace p303 := eq_true p303; replace q303 := eq_true q303) | ((with_reducible refine gate_callee (f := 31) rfl ?_); refine goesL_ (some 137) rfl rfl Tryz.func31 (by kernel_rfl) rfl #[.string (rdOf ByteArray.empty x3_1 x12_3)] rfl (by (try simp only [List.map_toArray, List.map_cons, List.map_nil]); first | done | rfl | (simp only [List.length_drop, List.length_take]; rfl)) ?_; (with_reducible refine (thresherref13_Take.calls k3 (rdOf ByteArray.empty x3_1 x12_3) t304 t305 t306 t307 t308 t309 t312 t313 _ A98.out).mono ?_); rintro e w123 ⟨v310, rfl, ho0, hb⟩; refine ⟨_, rfl, ?_⟩; have n0_ := Aside0.mk (Kd.R_below (by (with_reducible repeat (first | apply Kd.R_alloc | apply Kd.R_drewN | apply Kd.R_drew)); exact (Kd.R_mono (Kd.R_far (p := ⟨gb302, 6, none⟩) (Kd.R_far (p := ⟨gb302, 5, none⟩) (Kd.R_far (p := ⟨gb302, 4, none⟩) (Kd.R_far (p := ⟨gb302, 3, none⟩) (Kd.R_far (p := ⟨gb302, 2, none⟩) (Kd.R_far (p := ⟨gb302, 1, none⟩) (Kd.R_far (p := ⟨gb302, 0, none⟩) (Kd.R_types HO_3.out BK302.out (by decide)) (fun _ hk => hk.2) (.int .i64 t292)) (fun _ hk => hk.2) (.string t293)) (fun _ hk => hk.2) (.int .i64 t294)) (fun _ hk => hk.2) (.int .i64 t295)) (fun _ hk => hk.2) (.int .i64 t296)) (fun _ hk => hk.2) (.slice Ao122 t297.length co122)) (fun _ hk => hk.2) (.int .i64 t300)) (fun _ h_ => h_.1))) hb); have n1_ := Aside0.mk (Kd.R_elder' (by (with_reducible repeat (first | apply Kd.R_alloc | apply Kd.R_drewN | apply Kd.R_drew)); exact (Kd.R_mono (Kd.R_far (p := ⟨gb302, 6, none⟩) (Kd.R_far (p := ⟨gb302, 5, none⟩) (Kd.R_far (p := ⟨gb302, 4, none⟩) (Kd.R_far (p := ⟨gb302, 3, none⟩) (Kd.R_far (p := ⟨gb302, 2, none⟩) (Kd.R_far (p := ⟨gb302, 1, none⟩) (Kd.R_far (p := ⟨gb302, 0, none⟩) (Kd.R_types HO299.out BK302.out (by decide)) (fun _ hk => hk.2) (.int .i64 t292)) (fun _ hk => hk.2) (.string t293)) (fun _ hk => hk.2) (.int .i64 t294)) (fun _ hk => hk.2) (.int .i64 t295)) (fun _ hk => hk.2) (.int .i64 t296)) (fun _ hk => hk.2) (.slice Ao122 t297.length co122)) (fun _ hk => hk.2) (.int .i64 t300)) (fun _ h_ => h_.1))) (Kd.R_base ho0) hb); have n2_ := Aside0.mk (Kd.R_lower (Kd.R_new' ho0 (Kd.R_lt (by (with_reducible repeat (first | apply Kd.R_alloc | apply Kd.R_drewN | apply Kd.R_drew)); exact (Kd.R_mono (Kd.R_far (p := ⟨gb302, 6, none⟩) (Kd.R_far (p := ⟨gb302, 5, none⟩) (Kd.R_far (p := ⟨gb302, 4, none⟩) (Kd.R_far (p := ⟨gb302, 3, none⟩) (Kd.R_far (p := ⟨gb302, 2, none⟩) (Kd.R_far (p := ⟨gb302, 1, none⟩) (Kd.R_far (p := ⟨gb302, 0, none⟩) (Kd.R_types HO299.out BK302.out (by decide)) (fun _ hk => hk.2) (.int .i64 t292)) (fun _ hk => hk.2) (.string t293)) (fun _ hk => hk.2) (.int .i64 t294)) (fun _ hk => hk.2) (.int .i64 t295)) (fun _ hk => hk.2) (.int .i64 t296)) (fun _ hk => hk.2) (.slice Ao122 t297.length co122)) (fun _ hk => hk.2) (.int .i64 t300)) (fun _ h_ => h_.1))))) (below_size (by repeat (first | (with_reducible first | exact HB.out | apply below_alloc | apply pw_below_drewN | apply below_drew1 | refine below_setA ?_ ‹_›) | exact HB.out)))); have n3_ := Aside0.mk (blk_below (g := gb251) (o := .cells #[.int .i64 a0_0, .slice A0_1 l0_1.length c0_1, .int .i64 a0_2, .int .i64 a0_3, .slice A0_4 l0_4.length c0_4, .slice A0_5 l0_5.length c0_5, .string a0_6] 57 (0, 0)) (by (with_reducible repeat (first | refine blk_drewN ?_ _ | refine blk_drew ?_ | refine blk_alloc ?_ _ | refine blk_far ?_ NB251_302.out _)); exact BK251.out) hb); have n4_ := Aside0.mk (blk_below (g := gb302) (o := .cells #[.int .i64 t292, .string t293, .int .i64 t294, .int .i64 t295, .int .i64 t296, .slice Ao122 t297.length co122, .int .i64 t300] 63 (0, 0)) (by refine blk_up ?_; refine blk_put (cs := #[.int .i64 t292, .string t293, .int .i64 t294, .int .i64 t295, .int .i64 t296, .slice Ao122 t297.length co122, .int .i64 0]) ?_ 6 _ rfl; refine blk_up ?_; refine blk_put (cs := #[.int .i64 t292, .string t293, .int .i64 t294, .int .i64 t295, .int .i64 t296, .slice none 0 0, .int .i64 0]) ?_ 5 _ rfl; refine blk_up ?_; refine blk_put (cs := #[.int .i64 t292, .string t293, .int .i64 t294, .int .i64 t295, .int .i64 0, .slice none 0 0, .int .i64 0]) ?_ 4 _ rfl; refine blk_up ?_; refine blk_put (cs := #[.int .i64 t292, .string t293, .int .i64 t294, .int .i64 0, .int .i64 0, .slice none 0 0, .int .i64 0]) ?_ 3 _ rfl; refine blk_up ?_; refine blk_put (cs := #[.int .i64 t292, .string t293, .int .i64 0, .int .i64 0, .int .i64 0, .slice none 0 0, .int .i64 0]) ?_ 2 _ rfl; refine blk_up ?_; refine blk_put (cs := #[.int .i64 t292, .string (⟨#[]⟩ : ByteArray), .int .i64 0, .int .i64 0, .int .i64 0, .slice none 0 0, .int .i64 0]) ?_ 1 _ rfl; refine blk_up ?_; refine blk_put (cs := #[.int .i64 0, .string (⟨#[]⟩ : ByteArray), .int .i64 0, .int .i64 0, .int .i64 0, .slice none 0 0, .int .i64 0]) ?_ 0 _ rfl; refine blk_up ?_; exact BK302.out) hb); have n5_ := Aside0.mk (below_step (by repeat (first | (with_reducible first | exact HB.out | apply below_alloc | apply pw_below_drewN | apply below_drew1 | refine below_setA ?_ ‹_›) | exact HB.out)) hb); clear HO_3; clear HO299; clear BK251; clear BK302; clear HB; have HO_3 := n0_; have HO299 := n1_; have HO311 := n2_; have BK251 := n3_; have BK302 := n4_; have HB := n5_; clear n0_ n1_ n2_ n3_ n4_ n5_; (try clear hb); (try clear hb2); (try clear hk); (try clear hi); (try clear ho0)) | ((with_reducible refine gate_dst (N := 15) rfl ?_); refine box_event ?hg (N := 15) ?hd (cs := #[.int .i64 0, .string (⟨#[]⟩ : ByteArray), .int .i64 0, .int .i64 0, .int .i64 0, .slice none 0 0, .int .i64 0]) (t := 63) ?hr ?_; (case hd => rfl); (case hg => rfl); (case hr => first | (go_simp; done) | (go_simp; rfl)); intro gb314 hg w124 hbox hb; have n0_ := Aside0.mk (Kd.R_below (by (with_reducible repeat (first | apply Kd.R_alloc | apply Kd.R_drewN | apply Kd.R_drew)); exact HO_3.out) hb); have n1_ := Aside0.mk (Kd.R_below (by (with_reducible repeat (first | apply Kd.R_alloc | apply Kd.R_drewN | apply Kd.R_drew)); exact HO299.out) hb); have n2_ := Aside0.mk (Kd.R_below (by (with_reducible repeat (first | apply Kd.R_alloc | apply Kd.R_drewN | apply Kd.R_drew)); exact HO311.out) hb); have n3_ := Aside0.mk (blk_below (blk_up BK251.out) hb); have n4_ := Aside0.mk (blk_below (blk_up BK302.out) hb); have n5_ := Aside0.mk (below_step (by repeat (first | (with_reducible first | exact HB.out | apply below_alloc | apply pw_below_drewN | apply below_drew1 | refine below_setA ?_ ‹_›) | exact HB.out)) hb); have n6_ := Aside0.mk (hbox); have n7_ := Aside0.mk ((by rw [hg]; exact (below_size (by repeat (first | (with_reducible first | exact HB.out | apply below_alloc | apply pw_below_drewN | apply below_drew1 | refine below_setA ?_ ‹_›) | exact HB.out))) : w.heap.size ≤ gb314)); have n8_ := n7_; have n9_ := Aside0.mk ((by rw [hg]; exact Nat.ne_of_lt (blk_lt (blk_up BK251.out)) : gb251 ≠ gb314)); have n10_ := Aside0.mk ((by rw [hg]; exact Nat.ne_of_gt (blk_lt (blk_up BK251.out)) : gb314 ≠ gb251)); have n11_ := Aside0.mk ((by rw [hg]; exact Nat.ne_of_lt (blk_lt (blk_up BK302.out)) : gb302 ≠ gb314)); have n12_ := Aside0.mk ((by rw [hg]; exact Nat.ne_of_gt (blk_lt (blk_up BK302.out)) : gb314 ≠ gb302)); clear HO_3; clear HO299; clear HO311; clear BK251; clear BK302; clear HB; have HO_3 := n0_; have HO299 := n1_; have HO311 := n2_; have BK251 := n3_; have BK302 := n4_; have HB := n5_; have BK314 := n6_; have GW314 := n7_; have GE314 := n8_; have NB251_314 := n9_; have NB314_251 := n10_; have NB302_314 := n11_; have NB314_302 := n12_; clear n0_ n1_ n2_ n3_ n4_ n5_ n6_ n7_ n8_ n9_ n10_ n11_ n12_; clear hb hbox hg; have hnb125 := NB314_251.out; have hnc125 := NB251_314.out; have hnb126 := NB314_302.out; have hnc126 := NB302_314.out; obtain ⟨hcz127_0, hcz127_1, hcz127_2, hcz127_3, hcz127_4, hcz127_5, hcz127_6, hfz127_0, hfz127_1, hfz127_2, hfz127_3, hfz127_4, hfz127_5, hfz127_6⟩ := blkall_7 BK314.out; obtain ⟨Ao128, co128, eo128⟩ := Kd.R_slice HO311.out; subst eo128) | ((with_reducible refine gate_callee (f := 27) rfl ?_); refine goesL_ (some 141) rfl rfl Tryz.func27 (by kernel_rfl) rfl #[.int .i64 t301] rfl (by (try simp only [List.map_toArray, List.map_cons, List.map_nil]); first | done | rfl | (simp only [List.length_drop, List.length_take]; rfl)) ?_; (with_reducible refine (thresherlaw14_num.calls t301 t315 _ A99.out).mono ?_); rintro e w' ⟨rfl, ⟨nd, rfl⟩⟩; refine ⟨_, rfl, ?_⟩; obtain ⟨hcz129_0, hcz129_1, hcz129_2, hcz129_3, hcz129_4, hcz129_5, hcz129_6, hfz129_0, hfz129_1, hfz129_2, hfz129_3, hfz129_4, hfz129_5, hfz129_6⟩ := blkall_7 BK302.out) | (go_at_call 30; (with_reducible refine (thresherref0_EqJob.calls k3 t292 t293 t294 t295 t296 _ _ t297 t300 t304 t305 t306 t307 t308 _ _ t309 t312 false _ ?side1 ?side2 ?side3 ?side4 A101.out).mono ?_); (case side1 => refine (Kd.R_reads' (e := 3) (base := w.heap.size) (ok := fun k_ => (True ∧ some k_ ≠ (.slice Ao128 t309.length co128 : Value).ownBlock)) (n := t297.length) (c := co122) ?_).2.2; exact (by (with_reducible repeat (first | apply Kd.R_alloc | apply Kd.R_drewN | apply Kd.R_drew)); exact (Kd.R_mono (Kd.R_far (p := ⟨gb314, 6, none⟩) (Kd.R_far (p := ⟨gb314, 5, none⟩) (Kd.R_far (p := ⟨gb314, 4, none⟩) (Kd.R_far (p := ⟨gb314, 3, none⟩) (Kd.R_far (p := ⟨gb314, 2, none⟩) (Kd.R_far (p := ⟨gb314, 1, none⟩) (Kd.R_far (p := ⟨gb314, 0, none⟩) (Kd.R_types HO299.out BK314.out (by decide)) (fun _ hk => hk.2) (.int .i64 t304)) (fun _ hk => hk.2) (.string t305)) (fun _ hk => hk.2) (.int .i64 t306)) (fun _ hk => hk.2) (.int .i64 t307)) (fun _ hk => hk.2) (.int .i64 t308)) (fun _ hk => hk.2) (.slice Ao128 t309.length co128)) (fun _ hk => hk.2) (.int .i64 t312)) (fun _ h_ => h_.1)))); (case side2 => exact (Kd.R_reads' HO299.out).2.1); (case side3 => refine (Kd.R_reads' (e := 3) (base := w.heap.size) (ok := fun k_ => (True ∧ some k_ ≠ (.slice Ao122 t297.length co122 : Value).ownBlock)) (n := t309.length) (c := co128) ?_).2.2; exact (by (with_reducible repeat (first | apply Kd.R_alloc | apply Kd.R_drewN | apply Kd.R_drew)); exact (Kd.R_mono (Kd.R_far (p := ⟨gb314, 6, none⟩) (Kd.R_far (p := ⟨gb314, 5, none⟩) (Kd.R_far (p := ⟨gb314, 4, none⟩) (Kd.R_far (p := ⟨gb314, 3, none⟩) (Kd.R_far (p := ⟨gb314, 2, none⟩) (Kd.R_far (p := ⟨gb314, 1, none⟩) (Kd.R_far (p := ⟨gb314, 0, none⟩) (Kd.R_types HO311.out BK314.out (by decide)) (fun _ hk => hk.2) (.int .i64 t304)) (fun _ hk => hk.2) (.string t305)) (fun _ hk => hk.2) (.int .i64 t306)) (fun _ hk => hk.2) (.int .i64 t307)) (fun _ hk => hk.2) (.int .i64 t308)) (fun _ hk => hk.2) (.slice Ao128 t309.length co128)) (fun _ hk => hk.2) (.int .i64 t312)) (fun _ h_ => h_.1)))); (case side4 => exact (Kd.R_reads' HO311.out).2.1); rintro e w130 ⟨rfl, hb⟩; have n0_ := Aside0.mk (Kd.R_below (by (with_reducible repeat (first | apply Kd.R_alloc | apply Kd.R_drewN | apply Kd.R_drew)); exact (Kd.R_mono (Kd.R_far (p := ⟨gb314, 6, none⟩) (Kd.R_far (p := ⟨gb314, 5, none⟩) (Kd.R_far (p := ⟨gb314, 4, none⟩) (Kd.R_far (p := ⟨gb314, 3, none⟩) (Kd.R_far (p := ⟨gb314, 2, none⟩) (Kd.R_far (p := ⟨gb314, 1, none⟩) (Kd.R_far (p := ⟨gb314, 0, none⟩) (Kd.R_types HO_3.out BK314.out (by decide)) (fun _ hk => hk.2) (.int .i64 t304)) (fun _ hk => hk.2) (.string t305)) (fun _ hk => hk.2) (.int .i64 t306)) (fun _ hk => hk.2) (.int .i64 t307)) (fun _ hk => hk.2) (.int .i64 t308)) (fun _ hk => hk.2) (.slice Ao128 t309.length co128)) (fun _ hk => hk.2) (.int .i64 t312)) (fun _ h_ => h_.1))) hb); have n1_ := Aside0.mk (Kd.R_below (by (with_reducible repeat (first | apply Kd.R_alloc | apply Kd.R_drewN | apply Kd.R_drew)); exact (Kd.R_mono (Kd.R_far (p := ⟨gb314, 6, none⟩) (Kd.R_far (p := ⟨gb314, 5, none⟩) (Kd.R_far (p := ⟨gb314, 4, none⟩) (Kd.R_far (p := ⟨gb314, 3, none⟩) (Kd.R_far (p := ⟨gb314, 2, none⟩) (Kd.R_far (p := ⟨gb314, 1, none⟩) (Kd.R_far (p := ⟨gb314, 0, none⟩) (Kd.R_types HO299.out BK314.out (by decide)) (fun _ hk => hk.2) (.int .i64 t304)) (fun _ hk => hk.2) (.string t305)) (fun _ hk => hk.2) (.int .i64 t306)) (fun _ hk => hk.2) (.int .i64 t307)) (fun _ hk => hk.2) (.int .i64 t308)) (fun _ hk => hk.2) (.slice Ao128 t309.length co128)) (fun _ hk => hk.2) (.int .i64 t312)) (fun _ h_ => h_.1))) hb); have n2_ := Aside0.mk (Kd.R_below (by (with_reducible repeat (first | apply Kd.R_alloc | apply Kd.R_drewN | apply Kd.R_drew)); exact (Kd.R_mono (Kd.R_far (p := ⟨gb314, 6, none⟩) (Kd.R_far (p := ⟨gb314, 5, none⟩) (Kd.R_far (p := ⟨gb314, 4, none⟩) (Kd.R_far (p := ⟨gb314, 3, none⟩) (Kd.R_far (p := ⟨gb314, 2, none⟩) (Kd.R_far (p := ⟨gb314, 1, none⟩) (Kd.R_far (p := ⟨gb314, 0, none⟩) (Kd.R_types HO311.out BK314.out (by decide)) (fun _ hk => hk.2) (.int .i64 t304)) (fun _ hk => hk.2) (.string t305)) (fun _ hk => hk.2) (.int .i64 t306)) (fun _ hk => hk.2) (.int .i64 t307)) (fun _ hk => hk.2) (.int .i64 t308)) (fun _ hk => hk.2) (.slice Ao128 t309.length co128)) (fun _ hk => hk.2) (.int .i64 t312)) (fun _ h_ => h_.1))) hb); have n3_ := Aside0.mk (blk_below (g := gb251) (o := .cells #[.int .i64 a0_0, .slice A0_1 l0_1.length c0_1, .int .i64 a0_2, .int .i64 a0_3, .slice A0_4 l0_4.length c0_4, .slice A0_5 l0_5.length c0_5, .string a0_6] 57 (0, 0)) (by (with_reducible repeat (first | refine blk_drewN ?_ _ | refine blk_drew ?_ | refine blk_alloc ?_ _ | refine blk_far ?_ NB251_314.out _)); exact BK251.out) hb); have n4_ := Aside0.mk (blk_below (g := gb302) (o := .cells #[.int .i64 t292, .string t293, .int .i64 t294, .int .i64 t295, .int .i64 t296, .slice Ao122 t297.length co122, .int .i64 t300] 63 (0, 0)) (by (with_reducible repeat (first | refine blk_drewN ?_ _ | refine blk_drew ?_ | refine blk_alloc ?_ _ | refine blk_far ?_ NB302_314.out _)); exact BK302.out) hb); have n5_ := Aside0.mk (blk_below (g := gb314) (o := .cells #[.int .i64 t304, .string t305, .int .i64 t306, .int .i64 t307, .int .i64 t308, .slice Ao128 t309.length co128, .int .i64 t312] 63 (0, 0)) (by refine blk_up ?_; refine blk_put (cs := #[.int .i64 t304, .string t305, .int .i64 t306, .int .i64 t307, .int .i64 t308, .slice Ao128 t309.length co128, .int .i64 0]) ?_ 6 _ rfl; refine blk_up ?_; refine blk_put (cs := #[.int .i64 t304, .string t305, .int .i64 t306, .int .i64 t307, .int .i64 t308, .slice none 0 0, .int .i64 0]) ?_ 5 _ rfl; refine blk_up ?_; refine blk_put (cs := #[.int .i64 t304, .string t305, .int .i64 t306, .int .i64 t307, .int .i64 0, .slice none 0 0, .int .i64 0]) ?_ 4 _ rfl; refine blk_up ?_; refine blk_put (cs := #[.int .i64 t304, .string t305, .int .i64 t306, .int .i64 0, .int .i64 0, .slice none 0 0, .int .i64 0]) ?_ 3 _ rfl; refine blk_up ?_; refine blk_put (cs := #[.int .i64 t304, .string t305, .int .i64 0, .int .i64 0, .int .i64 0, .slice none 0 0, .int .i64 0]) ?_ 2 _ rfl; refine blk_up ?_; refine blk_put (cs := #[.int .i64 t304, .string (⟨#[]⟩ : ByteArray), .int .i64 0, .int .i64 0, .int .i64 0, .slice none 0 0, .int .i64 0]) ?_ 1 _ rfl; refine blk_up ?_; refine blk_put (cs := #[.int .i64 0, .string (⟨#[]⟩ : ByteArray), .int .i64 0, .int .i64 0, .int .i64 0, .slice none 0 0, .int .i64 0]) ?_ 0 _ rfl; refine blk_up ?_; exact BK314.out) hb); have n6_ := Aside0.mk (below_step (by repeat (first | (with_reducible first | exact HB.out | apply below_alloc | apply pw_below_drewN | apply below_drew1 | refine below_setA ?_ ‹_›) | exact HB.out)) hb); clear HO_3; clear HO299; clear HO311; clear BK251; clear BK302; clear BK314; clear HB; have HO_3 := n0_; have HO299 := n1_; have HO311 := n2_; have BK251 := n3_; have BK302 := n4_; have BK314 := n5_; have HB := n6_; clear n0_ n1_ n2_ n3_ n4_ n5_ n6_; (try clear hb); (try clear hb2); (try clear hk); (try clear hi)))
         go_ret
         exact ⟨by first | rfl | (simp [errW_none, errW_some] <;> rfl) | (simp [*, errW_none, errW_some] <;> rfl), by repeat (first | (with_reducible first | exact HB.out | apply below_alloc | apply pw_below_drewN | apply below_drew1 | refine below_setA ?_ ‹_›) | exact HB.out)⟩
        subst c102
        have H1 : (thresherlaw14_JobBytes.l2 k3 x3_1 (wrap64 (x12_3 + 1))) = some r := by rw [if_pos rfl] at H; exact H
        clear H; have H := H1; clear H1
        have H' := Aside0.mk H
        clear H
        obtain ⟨Ao103, co103, eo103⟩ := Kd.R_slice HO_3.out
        subst eo103
        have p291 : 0 ≤ (x12_3 : Int) := of_decide_eq_true (by first | (with_reducible assumption) | assumption)
        have q291 : x12_3 < (x3_1.length : Int) := of_decide_eq_true (by first | (with_reducible assumption) | assumption)
        obtain ⟨ad291, e291, hx291_0⟩ := Kd.at_string (Kd.R_reads' HO_3.out).2.2 x12_3 p291 q291
        cases e291
        replace p291 := eq_true p291
        replace q291 := eq_true q291
        go_wp2_with (first | ((with_reducible refine gate_callee (f := 29) rfl ?_); refine goesL_ (some 129) rfl rfl Tryz.func29 (by kernel_rfl) rfl #[.string (rdOf ByteArray.empty x3_1 x12_3)] rfl (by (try simp only [List.map_toArray, List.map_cons, List.map_nil]); first | done | rfl | (simp only [List.length_drop, List.length_take]; rfl)) ?_; (with_reducible refine (job_Take.calls k3 (rdOf ByteArray.empty x3_1 x12_3) t292 t293 t294 t295 t296 t297 t300 t301 _ A97.out).mono ?_); rintro e w104 ⟨v298, rfl, ho0, hb⟩; refine ⟨_, rfl, ?_⟩; have n0_ := Aside0.mk (Kd.R_below (by (with_reducible repeat (first | apply Kd.R_alloc | apply Kd.R_drewN | apply Kd.R_drew)); exact HO_3.out) hb); have n1_ := Aside0.mk (Kd.R_lower ho0 (below_size (by repeat (first | (with_reducible first | exact HB.out | apply below_alloc | apply pw_below_drewN | apply below_drew1 | refine below_setA ?_ ‹_›) | exact HB.out)))); have n2_ := Aside0.mk (blk_below (blk_up BK251.out) hb); have n3_ := Aside0.mk (below_step (by repeat (first | (with_reducible first | exact HB.out | apply below_alloc | apply pw_below_drewN | apply below_drew1 | refine below_setA ?_ ‹_›) | exact HB.out)) hb); clear HO_3; clear BK251; clear HB; have HO_3 := n0_; have HO299 := n1_; have BK251 := n2_; have HB := n3_; clear n0_ n1_ n2_ n3_; (try clear hb); (try clear hb2); (try clear hk); (try clear hi); (try clear ho0)) | ((with_reducible refine gate_dst (N := 13) rfl ?_); refine box_event ?hg (N := 13) ?hd (cs := #[.int .i64 0, .string (⟨#[]⟩ : ByteArray), .int .i64 0, .int .i64 0, .int .i64 0, .slice none 0 0, .int .i64 0]) (t := 63) ?hr ?_; (case hd => rfl); (case hg => rfl); (case hr => first | (go_simp; done) | (go_simp; rfl)); intro gb302 hg w105 hbox hb; have n0_ := Aside0.mk (Kd.R_below (by (with_reducible repeat (first | apply Kd.R_alloc | apply Kd.R_drewN | apply Kd.R_drew)); exact HO_3.out) hb); have n1_ := Aside0.mk (Kd.R_below (by (with_reducible repeat (first | apply Kd.R_alloc | apply Kd.R_drewN | apply Kd.R_drew)); exact HO299.out) hb); have n2_ := Aside0.mk (blk_below (blk_up BK251.out) hb); have n3_ := Aside0.mk (below_step (by repeat (first | (with_reducible first | exact HB.out | apply below_alloc | apply pw_below_drewN | apply below_drew1 | refine below_setA ?_ ‹_›) | exact HB.out)) hb); have n4_ := Aside0.mk (hbox); have n5_ := Aside0.mk ((by rw [hg]; exact (below_size (by repeat (first | (with_reducible first | exact HB.out | apply below_alloc | apply pw_below_drewN | apply below_drew1 | refine below_setA ?_ ‹_›) | exact HB.out))) : w.heap.size ≤ gb302)); have n6_ := n5_; have n7_ := Aside0.mk ((by rw [hg]; exact Nat.ne_of_lt (blk_lt (blk_up BK251.out)) : gb251 ≠ gb302)); have n8_ := Aside0.mk ((by rw [hg]; exact Nat.ne_of_gt (blk_lt (blk_up BK251.out)) : gb302 ≠ gb251)); clear HO_3; clear HO299; clear BK251; clear HB; have HO_3 := n0_; have HO299 := n1_; have BK251 := n2_; have HB := n3_; have BK302 := n4_; have GW302 := n5_; have GE302 := n6_; have NB251_302 := n7_; have NB302_251 := n8_; clear n0_ n1_ n2_ n3_ n4_ n5_ n6_ n7_ n8_; clear hb hbox hg; have hnb106 := NB302_251.out; have hnc106 := NB251_302.out; obtain ⟨hcz107_0, hcz107_1, hcz107_2, hcz107_3, hcz107_4, hcz107_5, hcz107_6, hfz107_0, hfz107_1, hfz107_2, hfz107_3, hfz107_4, hfz107_5, hfz107_6⟩ := blkall_7 BK302.out; obtain ⟨Ao108, co108, eo108⟩ := Kd.R_slice HO299.out; subst eo108; have p303 : 0 ≤ (x12_3 : Int) := of_decide_eq_true (by first | (with_reducible assumption) | assumption); have q303 : x12_3 < (x3_1.length : Int) := of_decide_eq_true (by first | (with_reducible assumption) | assumption); obtain ⟨ad303, e303, hx303_0⟩ := Kd.at_string (Kd.R_reads' HO_3.out).2.2 x12_3 p303 q303; obtain rfl : ad291 = ad303 := (by injection e303); have hn303_0 : ad291.block ≠ gb302 := Kd.own_blk (Kd.R_ne HO_3.out BK302.out (by decide)); have hn303_1 : ad291.block ≠ gb302 := Kd.own_blk (Kd.R_ne HO_3.out BK302.out (by decide)); have hn303_2 : ad291.block ≠ gb302 := Kd.own_blk (Kd.R_ne HO_3.out BK302.out (by decide)); have hn303_3 : ad291.block ≠ gb302 := Kd.own_blk (Kd.R_ne HO_3.out BK302.out (by decide)); have hn303_4 : ad291.block ≠ gb302 := Kd.own_blk (Kd.R_ne HO_3.out BK302.out (by decide)); have hn303_5 : ad291.block ≠ gb302 := Kd.own_blk (Kd.R_ne HO_3.out BK302.out (by decide)); have hn303_6 : ad291.block ≠ gb302 := Kd.own_blk (Kd.R_ne HO_3.out BK302.out (by decide)); replace hx303_0 := (cell_far (p := ⟨gb302, 0, none⟩) (by first | (rw [add_block]; exact hn303_0) | (show (Addr.add _ _).block ≠ _; rw [add_block]; exact hn303_0) | exact hn303_0) (.int .i64 t292)).trans hx303_0; replace hx303_0 := (cell_far (p := ⟨gb302, 1, none⟩) (by first | (rw [add_block]; exact hn303_1) | (show (Addr.add _ _).block ≠ _; rw [add_block]; exact hn303_1) | exact hn303_1) (.string t293)).trans hx303_0; replace hx303_0 := (cell_far (p := ⟨gb302, 2, none⟩) (by first | (rw [add_block]; exact hn303_2) | (show (Addr.add _ _).block ≠ _; rw [add_block]; exact hn303_2) | exact hn303_2) (.int .i64 t294)).trans hx303_0; replace hx303_0 := (cell_far (p := ⟨gb302, 3, none⟩) (by first | (rw [add_block]; exact hn303_3) | (show (Addr.add _ _).block ≠ _; rw [add_block]; exact hn303_3) | exact hn303_3) (.int .i64 t295)).trans hx303_0; replace hx303_0 := (cell_far (p := ⟨gb302, 4, none⟩) (by first | (rw [add_block]; exact hn303_4) | (show (Addr.add _ _).block ≠ _; rw [add_block]; exact hn303_4) | exact hn303_4) (.int .i64 t296)).trans hx303_0; replace hx303_0 := (cell_far (p := ⟨gb302, 5, none⟩) (by first | (rw [add_block]; exact hn303_5) | (show (Addr.add _ _).block ≠ _; rw [add_block]; exact hn303_5) | exact hn303_5) (.slice Ao108 t297.length co108)).trans hx303_0; replace hx303_0 := (cell_far (p := ⟨gb302, 6, none⟩) (by first | (rw [add_block]; exact hn303_6) | (show (Addr.add _ _).block ≠ _; rw [add_block]; exact hn303_6) | exact hn303_6) (.int .i64 t300)).trans hx303_0; clear hn303_0; clear hn303_1; clear hn303_2; clear hn303_3; clear hn303_4; clear hn303_5; clear hn303_6; replace p303 := eq_true p303; replace q303 := eq_true q303) | ((with_reducible refine gate_callee (f := 31) rfl ?_); refine goesL_ (some 137) rfl rfl Tryz.func31 (by kernel_rfl) rfl #[.string (rdOf ByteArray.empty x3_1 x12_3)] rfl (by (try simp only [List.map_toArray, List.map_cons, List.map_nil]); first | done | rfl | (simp only [List.length_drop, List.length_take]; rfl)) ?_; (with_reducible refine (thresherref13_Take.calls k3 (rdOf ByteArray.empty x3_1 x12_3) t304 t305 t306 t307 t308 t309 t312 t313 _ A98.out).mono ?_); rintro e w109 ⟨v310, rfl, ho0, hb⟩; refine ⟨_, rfl, ?_⟩; have n0_ := Aside0.mk (Kd.R_below (by (with_reducible repeat (first | apply Kd.R_alloc | apply Kd.R_drewN | apply Kd.R_drew)); exact (Kd.R_mono (Kd.R_far (p := ⟨gb302, 6, none⟩) (Kd.R_far (p := ⟨gb302, 5, none⟩) (Kd.R_far (p := ⟨gb302, 4, none⟩) (Kd.R_far (p := ⟨gb302, 3, none⟩) (Kd.R_far (p := ⟨gb302, 2, none⟩) (Kd.R_far (p := ⟨gb302, 1, none⟩) (Kd.R_far (p := ⟨gb302, 0, none⟩) (Kd.R_types HO_3.out BK302.out (by decide)) (fun _ hk => hk.2) (.int .i64 t292)) (fun _ hk => hk.2) (.string t293)) (fun _ hk => hk.2) (.int .i64 t294)) (fun _ hk => hk.2) (.int .i64 t295)) (fun _ hk => hk.2) (.int .i64 t296)) (fun _ hk => hk.2) (.slice Ao108 t297.length co108)) (fun _ hk => hk.2) (.int .i64 t300)) (fun _ h_ => h_.1))) hb); have n1_ := Aside0.mk (Kd.R_elder' (by (with_reducible repeat (first | apply Kd.R_alloc | apply Kd.R_drewN | apply Kd.R_drew)); exact (Kd.R_mono (Kd.R_far (p := ⟨gb302, 6, none⟩) (Kd.R_far (p := ⟨gb302, 5, none⟩) (Kd.R_far (p := ⟨gb302, 4, none⟩) (Kd.R_far (p := ⟨gb302, 3, none⟩) (Kd.R_far (p := ⟨gb302, 2, none⟩) (Kd.R_far (p := ⟨gb302, 1, none⟩) (Kd.R_far (p := ⟨gb302, 0, none⟩) (Kd.R_types HO299.out BK302.out (by decide)) (fun _ hk => hk.2) (.int .i64 t292)) (fun _ hk => hk.2) (.string t293)) (fun _ hk => hk.2) (.int .i64 t294)) (fun _ hk => hk.2) (.int .i64 t295)) (fun _ hk => hk.2) (.int .i64 t296)) (fun _ hk => hk.2) (.slice Ao108 t297.length co108)) (fun _ hk => hk.2) (.int .i64 t300)) (fun _ h_ => h_.1))) (Kd.R_base ho0) hb); have n2_ := Aside0.mk (Kd.R_lower (Kd.R_new' ho0 (Kd.R_lt (by (with_reducible repeat (first | apply Kd.R_alloc | apply Kd.R_drewN | apply Kd.R_drew)); exact (Kd.R_mono (Kd.R_far (p := ⟨gb302, 6, none⟩) (Kd.R_far (p := ⟨gb302, 5, none⟩) (Kd.R_far (p := ⟨gb302, 4, none⟩) (Kd.R_far (p := ⟨gb302, 3, none⟩) (Kd.R_far (p := ⟨gb302, 2, none⟩) (Kd.R_far (p := ⟨gb302, 1, none⟩) (Kd.R_far (p := ⟨gb302, 0, none⟩) (Kd.R_types HO299.out BK302.out (by decide)) (fun _ hk => hk.2) (.int .i64 t292)) (fun _ hk => hk.2) (.string t293)) (fun _ hk => hk.2) (.int .i64 t294)) (fun _ hk => hk.2) (.int .i64 t295)) (fun _ hk => hk.2) (.int .i64 t296)) (fun _ hk => hk.2) (.slice Ao108 t297.length co108)) (fun _ hk => hk.2) (.int .i64 t300)) (fun _ h_ => h_.1))))) (below_size (by repeat (first | (with_reducible first | exact HB.out | apply below_alloc | apply pw_below_drewN | apply below_drew1 | refine below_setA ?_ ‹_›) | exact HB.out)))); have n3_ := Aside0.mk (blk_below (g := gb251) (o := .cells #[.int .i64 a0_0, .slice A0_1 l0_1.length c0_1, .int .i64 a0_2, .int .i64 a0_3, .slice A0_4 l0_4.length c0_4, .slice A0_5 l0_5.length c0_5, .string a0_6] 57 (0, 0)) (by (with_reducible repeat (first | refine blk_drewN ?_ _ | refine blk_drew ?_ | refine blk_alloc ?_ _ | refine blk_far ?_ NB251_302.out _)); exact BK251.out) hb); have n4_ := Aside0.mk (blk_below (g := gb302) (o := .cells #[.int .i64 t292, .string t293, .int .i64 t294, .int .i64 t295, .int .i64 t296, .slice Ao108 t297.length co108, .int .i64 t300] 63 (0, 0)) (by refine blk_up ?_; refine blk_put (cs := #[.int .i64 t292, .string t293, .int .i64 t294, .int .i64 t295, .int .i64 t296, .slice Ao108 t297.length co108, .int .i64 0]) ?_ 6 _ rfl; refine blk_up ?_; refine blk_put (cs := #[.int .i64 t292, .string t293, .int .i64 t294, .int .i64 t295, .int .i64 t296, .slice none 0 0, .int .i64 0]) ?_ 5 _ rfl; refine blk_up ?_; refine blk_put (cs := #[.int .i64 t292, .string t293, .int .i64 t294, .int .i64 t295, .int .i64 0, .slice none 0 0, .int .i64 0]) ?_ 4 _ rfl; refine blk_up ?_; refine blk_put (cs := #[.int .i64 t292, .string t293, .int .i64 t294, .int .i64 0, .int .i64 0, .slice none 0 0, .int .i64 0]) ?_ 3 _ rfl; refine blk_up ?_; refine blk_put (cs := #[.int .i64 t292, .string t293, .int .i64 0, .int .i64 0, .int .i64 0, .slice none 0 0, .int .i64 0]) ?_ 2 _ rfl; refine blk_up ?_; refine blk_put (cs := #[.int .i64 t292, .string (⟨#[]⟩ : ByteArray), .int .i64 0, .int .i64 0, .int .i64 0, .slice none 0 0, .int .i64 0]) ?_ 1 _ rfl; refine blk_up ?_; refine blk_put (cs := #[.int .i64 0, .string (⟨#[]⟩ : ByteArray), .int .i64 0, .int .i64 0, .int .i64 0, .slice none 0 0, .int .i64 0]) ?_ 0 _ rfl; refine blk_up ?_; exact BK302.out) hb); have n5_ := Aside0.mk (below_step (by repeat (first | (with_reducible first | exact HB.out | apply below_alloc | apply pw_below_drewN | apply below_drew1 | refine below_setA ?_ ‹_›) | exact HB.out)) hb); clear HO_3; clear HO299; clear BK251; clear BK302; clear HB; have HO_3 := n0_; have HO299 := n1_; have HO311 := n2_; have BK251 := n3_; have BK302 := n4_; have HB := n5_; clear n0_ n1_ n2_ n3_ n4_ n5_; (try clear hb); (try clear hb2); (try clear hk); (try clear hi); (try clear ho0)) | ((with_reducible refine gate_dst (N := 15) rfl ?_); refine box_event ?hg (N := 15) ?hd (cs := #[.int .i64 0, .string (⟨#[]⟩ : ByteArray), .int .i64 0, .int .i64 0, .int .i64 0, .slice none 0 0, .int .i64 0]) (t := 63) ?hr ?_; (case hd => rfl); (case hg => rfl); (case hr => first | (go_simp; done) | (go_simp; rfl)); intro gb314 hg w110 hbox hb; have n0_ := Aside0.mk (Kd.R_below (by (with_reducible repeat (first | apply Kd.R_alloc | apply Kd.R_drewN | apply Kd.R_drew)); exact HO_3.out) hb); have n1_ := Aside0.mk (Kd.R_below (by (with_reducible repeat (first | apply Kd.R_alloc | apply Kd.R_drewN | apply Kd.R_drew)); exact HO299.out) hb); have n2_ := Aside0.mk (Kd.R_below (by (with_reducible repeat (first | apply Kd.R_alloc | apply Kd.R_drewN | apply Kd.R_drew)); exact HO311.out) hb); have n3_ := Aside0.mk (blk_below (blk_up BK251.out) hb); have n4_ := Aside0.mk (blk_below (blk_up BK302.out) hb); have n5_ := Aside0.mk (below_step (by repeat (first | (with_reducible first | exact HB.out | apply below_alloc | apply pw_below_drewN | apply below_drew1 | refine below_setA ?_ ‹_›) | exact HB.out)) hb); have n6_ := Aside0.mk (hbox); have n7_ := Aside0.mk ((by rw [hg]; exact (below_size (by repeat (first | (with_reducible first | exact HB.out | apply below_alloc | apply pw_below_drewN | apply below_drew1 | refine below_setA ?_ ‹_›) | exact HB.out))) : w.heap.size ≤ gb314)); have n8_ := n7_; have n9_ := Aside0.mk ((by rw [hg]; exact Nat.ne_of_lt (blk_lt (blk_up BK251.out)) : gb251 ≠ gb314)); have n10_ := Aside0.mk ((by rw [hg]; exact Nat.ne_of_gt (blk_lt (blk_up BK251.out)) : gb314 ≠ gb251)); have n11_ := Aside0.mk ((by rw [hg]; exact Nat.ne_of_lt (blk_lt (blk_up BK302.out)) : gb302 ≠ gb314)); have n12_ := Aside0.mk ((by rw [hg]; exact Nat.ne_of_gt (blk_lt (blk_up BK302.out)) : gb314 ≠ gb302)); clear HO_3; clear HO299; clear HO311; clear BK251; clear BK302; clear HB; have HO_3 := n0_; have HO299 := n1_; have HO311 := n2_; have BK251 := n3_; have BK302 := n4_; have HB := n5_; have BK314 := n6_; have GW314 := n7_; have GE314 := n8_; have NB251_314 := n9_; have NB314_251 := n10_; have NB302_314 := n11_; have NB314_302 := n12_; clear n0_ n1_ n2_ n3_ n4_ n5_ n6_ n7_ n8_ n9_ n10_ n11_ n12_; clear hb hbox hg; have hnb111 := NB314_251.out; have hnc111 := NB251_314.out; have hnb112 := NB314_302.out; have hnc112 := NB302_314.out; obtain ⟨hcz113_0, hcz113_1, hcz113_2, hcz113_3, hcz113_4, hcz113_5, hcz113_6, hfz113_0, hfz113_1, hfz113_2, hfz113_3, hfz113_4, hfz113_5, hfz113_6⟩ := blkall_7 BK314.out; obtain ⟨Ao114, co114, eo114⟩ := Kd.R_slice HO311.out; subst eo114) | ((with_reducible refine gate_callee (f := 27) rfl ?_); refine goesL_ (some 141) rfl rfl Tryz.func27 (by kernel_rfl) rfl #[.int .i64 t301] rfl (by (try simp only [List.map_toArray, List.map_cons, List.map_nil]); first | done | rfl | (simp only [List.length_drop, List.length_take]; rfl)) ?_; (with_reducible refine (thresherlaw14_num.calls t301 t315 _ A99.out).mono ?_); rintro e w' ⟨rfl, ⟨nd, rfl⟩⟩; refine ⟨_, rfl, ?_⟩; obtain ⟨hcz115_0, hcz115_1, hcz115_2, hcz115_3, hcz115_4, hcz115_5, hcz115_6, hfz115_0, hfz115_1, hfz115_2, hfz115_3, hfz115_4, hfz115_5, hfz115_6⟩ := blkall_7 BK302.out) | (go_at_call 30; (with_reducible refine (thresherref0_EqJob.calls k3 t292 t293 t294 t295 t296 _ _ t297 t300 t304 t305 t306 t307 t308 _ _ t309 t312 true _ ?side1 ?side2 ?side3 ?side4 A101.out).mono ?_); (case side1 => refine (Kd.R_reads' (e := 3) (base := w.heap.size) (ok := fun k_ => (True ∧ some k_ ≠ (.slice Ao114 t309.length co114 : Value).ownBlock)) (n := t297.length) (c := co108) ?_).2.2; exact (by (with_reducible repeat (first | apply Kd.R_alloc | apply Kd.R_drewN | apply Kd.R_drew)); exact (Kd.R_mono (Kd.R_far (p := ⟨gb314, 6, none⟩) (Kd.R_far (p := ⟨gb314, 5, none⟩) (Kd.R_far (p := ⟨gb314, 4, none⟩) (Kd.R_far (p := ⟨gb314, 3, none⟩) (Kd.R_far (p := ⟨gb314, 2, none⟩) (Kd.R_far (p := ⟨gb314, 1, none⟩) (Kd.R_far (p := ⟨gb314, 0, none⟩) (Kd.R_types HO299.out BK314.out (by decide)) (fun _ hk => hk.2) (.int .i64 t304)) (fun _ hk => hk.2) (.string t305)) (fun _ hk => hk.2) (.int .i64 t306)) (fun _ hk => hk.2) (.int .i64 t307)) (fun _ hk => hk.2) (.int .i64 t308)) (fun _ hk => hk.2) (.slice Ao114 t309.length co114)) (fun _ hk => hk.2) (.int .i64 t312)) (fun _ h_ => h_.1)))); (case side2 => exact (Kd.R_reads' HO299.out).2.1); (case side3 => refine (Kd.R_reads' (e := 3) (base := w.heap.size) (ok := fun k_ => (True ∧ some k_ ≠ (.slice Ao108 t297.length co108 : Value).ownBlock)) (n := t309.length) (c := co114) ?_).2.2; exact (by (with_reducible repeat (first | apply Kd.R_alloc | apply Kd.R_drewN | apply Kd.R_drew)); exact (Kd.R_mono (Kd.R_far (p := ⟨gb314, 6, none⟩) (Kd.R_far (p := ⟨gb314, 5, none⟩) (Kd.R_far (p := ⟨gb314, 4, none⟩) (Kd.R_far (p := ⟨gb314, 3, none⟩) (Kd.R_far (p := ⟨gb314, 2, none⟩) (Kd.R_far (p := ⟨gb314, 1, none⟩) (Kd.R_far (p := ⟨gb314, 0, none⟩) (Kd.R_types HO311.out BK314.out (by decide)) (fun _ hk => hk.2) (.int .i64 t304)) (fun _ hk => hk.2) (.string t305)) (fun _ hk => hk.2) (.int .i64 t306)) (fun _ hk => hk.2) (.int .i64 t307)) (fun _ hk => hk.2) (.int .i64 t308)) (fun _ hk => hk.2) (.slice Ao114 t309.length co114)) (fun _ hk => hk.2) (.int .i64 t312)) (fun _ h_ => h_.1)))); (case side4 => exact (Kd.R_reads' HO311.out).2.1); rintro e w116 ⟨rfl, hb⟩; have n0_ := Aside0.mk (Kd.R_below (by (with_reducible repeat (first | apply Kd.R_alloc | apply Kd.R_drewN | apply Kd.R_drew)); exact (Kd.R_mono (Kd.R_far (p := ⟨gb314, 6, none⟩) (Kd.R_far (p := ⟨gb314, 5, none⟩) (Kd.R_far (p := ⟨gb314, 4, none⟩) (Kd.R_far (p := ⟨gb314, 3, none⟩) (Kd.R_far (p := ⟨gb314, 2, none⟩) (Kd.R_far (p := ⟨gb314, 1, none⟩) (Kd.R_far (p := ⟨gb314, 0, none⟩) (Kd.R_types HO_3.out BK314.out (by decide)) (fun _ hk => hk.2) (.int .i64 t304)) (fun _ hk => hk.2) (.string t305)) (fun _ hk => hk.2) (.int .i64 t306)) (fun _ hk => hk.2) (.int .i64 t307)) (fun _ hk => hk.2) (.int .i64 t308)) (fun _ hk => hk.2) (.slice Ao114 t309.length co114)) (fun _ hk => hk.2) (.int .i64 t312)) (fun _ h_ => h_.1))) hb); have n1_ := Aside0.mk (Kd.R_below (by (with_reducible repeat (first | apply Kd.R_alloc | apply Kd.R_drewN | apply Kd.R_drew)); exact (Kd.R_mono (Kd.R_far (p := ⟨gb314, 6, none⟩) (Kd.R_far (p := ⟨gb314, 5, none⟩) (Kd.R_far (p := ⟨gb314, 4, none⟩) (Kd.R_far (p := ⟨gb314, 3, none⟩) (Kd.R_far (p := ⟨gb314, 2, none⟩) (Kd.R_far (p := ⟨gb314, 1, none⟩) (Kd.R_far (p := ⟨gb314, 0, none⟩) (Kd.R_types HO299.out BK314.out (by decide)) (fun _ hk => hk.2) (.int .i64 t304)) (fun _ hk => hk.2) (.string t305)) (fun _ hk => hk.2) (.int .i64 t306)) (fun _ hk => hk.2) (.int .i64 t307)) (fun _ hk => hk.2) (.int .i64 t308)) (fun _ hk => hk.2) (.slice Ao114 t309.length co114)) (fun _ hk => hk.2) (.int .i64 t312)) (fun _ h_ => h_.1))) hb); have n2_ := Aside0.mk (Kd.R_below (by (with_reducible repeat (first | apply Kd.R_alloc | apply Kd.R_drewN | apply Kd.R_drew)); exact (Kd.R_mono (Kd.R_far (p := ⟨gb314, 6, none⟩) (Kd.R_far (p := ⟨gb314, 5, none⟩) (Kd.R_far (p := ⟨gb314, 4, none⟩) (Kd.R_far (p := ⟨gb314, 3, none⟩) (Kd.R_far (p := ⟨gb314, 2, none⟩) (Kd.R_far (p := ⟨gb314, 1, none⟩) (Kd.R_far (p := ⟨gb314, 0, none⟩) (Kd.R_types HO311.out BK314.out (by decide)) (fun _ hk => hk.2) (.int .i64 t304)) (fun _ hk => hk.2) (.string t305)) (fun _ hk => hk.2) (.int .i64 t306)) (fun _ hk => hk.2) (.int .i64 t307)) (fun _ hk => hk.2) (.int .i64 t308)) (fun _ hk => hk.2) (.slice Ao114 t309.length co114)) (fun _ hk => hk.2) (.int .i64 t312)) (fun _ h_ => h_.1))) hb); have n3_ := Aside0.mk (blk_below (g := gb251) (o := .cells #[.int .i64 a0_0, .slice A0_1 l0_1.length c0_1, .int .i64 a0_2, .int .i64 a0_3, .slice A0_4 l0_4.length c0_4, .slice A0_5 l0_5.length c0_5, .string a0_6] 57 (0, 0)) (by (with_reducible repeat (first | refine blk_drewN ?_ _ | refine blk_drew ?_ | refine blk_alloc ?_ _ | refine blk_far ?_ NB251_314.out _)); exact BK251.out) hb); have n4_ := Aside0.mk (blk_below (g := gb302) (o := .cells #[.int .i64 t292, .string t293, .int .i64 t294, .int .i64 t295, .int .i64 t296, .slice Ao108 t297.length co108, .int .i64 t300] 63 (0, 0)) (by (with_reducible repeat (first | refine blk_drewN ?_ _ | refine blk_drew ?_ | refine blk_alloc ?_ _ | refine blk_far ?_ NB302_314.out _)); exact BK302.out) hb); have n5_ := Aside0.mk (blk_below (g := gb314) (o := .cells #[.int .i64 t304, .string t305, .int .i64 t306, .int .i64 t307, .int .i64 t308, .slice Ao114 t309.length co114, .int .i64 t312] 63 (0, 0)) (by refine blk_up ?_; refine blk_put (cs := #[.int .i64 t304, .string t305, .int .i64 t306, .int .i64 t307, .int .i64 t308, .slice Ao114 t309.length co114, .int .i64 0]) ?_ 6 _ rfl; refine blk_up ?_; refine blk_put (cs := #[.int .i64 t304, .string t305, .int .i64 t306, .int .i64 t307, .int .i64 t308, .slice none 0 0, .int .i64 0]) ?_ 5 _ rfl; refine blk_up ?_; refine blk_put (cs := #[.int .i64 t304, .string t305, .int .i64 t306, .int .i64 t307, .int .i64 0, .slice none 0 0, .int .i64 0]) ?_ 4 _ rfl; refine blk_up ?_; refine blk_put (cs := #[.int .i64 t304, .string t305, .int .i64 t306, .int .i64 0, .int .i64 0, .slice none 0 0, .int .i64 0]) ?_ 3 _ rfl; refine blk_up ?_; refine blk_put (cs := #[.int .i64 t304, .string t305, .int .i64 0, .int .i64 0, .int .i64 0, .slice none 0 0, .int .i64 0]) ?_ 2 _ rfl; refine blk_up ?_; refine blk_put (cs := #[.int .i64 t304, .string (⟨#[]⟩ : ByteArray), .int .i64 0, .int .i64 0, .int .i64 0, .slice none 0 0, .int .i64 0]) ?_ 1 _ rfl; refine blk_up ?_; refine blk_put (cs := #[.int .i64 0, .string (⟨#[]⟩ : ByteArray), .int .i64 0, .int .i64 0, .int .i64 0, .slice none 0 0, .int .i64 0]) ?_ 0 _ rfl; refine blk_up ?_; exact BK314.out) hb); have n6_ := Aside0.mk (below_step (by repeat (first | (with_reducible first | exact HB.out | apply below_alloc | apply pw_below_drewN | apply below_drew1 | refine below_setA ?_ ‹_›) | exact HB.out)) hb); clear HO_3; clear HO299; clear HO311; clear BK251; clear BK302; clear BK314; clear HB; have HO_3 := n0_; have HO299 := n1_; have HO311 := n2_; have BK251 := n3_; have BK302 := n4_; have BK314 := n5_; have HB := n6_; clear n0_ n1_ n2_ n3_ n4_ n5_ n6_; (try clear hb); (try clear hb2); (try clear hk); (try clear hi)))
        go_roundg k3
        case measure => have := HK1.out; have := HJ12.out; have := HK3.out; omega
        case rel => exact ⟨(wrap64 (x12_3 + 1)), (by first | rfl | (simp; done) | (simp [*]; done)), H', ⟨by have := HK1.out; have := HJ12.out; have := HK3.out; omega⟩, ⟨by (with_reducible repeat (first | apply Kd.R_alloc | apply Kd.R_drewN | apply Kd.R_drew)); exact HO_3.out⟩, ⟨blk_up BK251.out⟩, ⟨by repeat (first | (with_reducible first | exact HB.out | apply below_alloc | apply pw_below_drewN | apply below_drew1 | refine below_setA ?_ ‹_›) | exact HB.out)⟩⟩
     subst c17
     have H1 : (if 0 ≤ x4_1 then (if x4_1 < (l0_5.length : Int) then ((job_Bytes.f kj12 ((rd_T63 l0_5 x4_1).f0) ((rd_T63 l0_5 x4_1).f1) ((rd_T63 l0_5 x4_1).f2) ((rd_T63 l0_5 x4_1).f3) ((rd_T63 l0_5 x4_1).f4) ((rd_T63 l0_5 x4_1).f5) ((rd_T63 l0_5 x4_1).f6)).bind fun bt257 => ((thresherref13_Job.f kj12 ((rd_T63 l0_5 x4_1).f0) ((rd_T63 l0_5 x4_1).f1) ((rd_T63 l0_5 x4_1).f2) ((rd_T63 l0_5 x4_1).f3) ((rd_T63 l0_5 x4_1).f4) ((rd_T63 l0_5 x4_1).f5) ((rd_T63 l0_5 x4_1).f6)).bind fun t260 => (if t260 = true then ((thresherref13_Bytes.f kj12 ((rd_T63 l0_5 x4_1).f0) ((rd_T63 l0_5 x4_1).f1) ((rd_T63 l0_5 x4_1).f2) ((rd_T63 l0_5 x4_1).f3) ((rd_T63 l0_5 x4_1).f4) ((rd_T63 l0_5 x4_1).f5) ((rd_T63 l0_5 x4_1).f6)).bind fun t262 => (if t262.size + 1 ≤ 9223372036854775807 then ((some (([t262, t262 ++ (⟨#[120]⟩ : ByteArray)] : List ByteArray) : List ByteArray)).bind fun y263 => (if x3_1.length + y263.length < 8796093022208 then (thresherlaw14_JobBytes.l1 kj12 (x3_1 ++ y263) x4_1 bt257.1 bt257.2 0 t262 0 a0_0 l0_1 a0_2 a0_3 l0_4 l0_5 a0_6) else (none))) else (none))) else (thresherlaw14_JobBytes.j3 kj12 x3_1 x4_1 bt257.1 bt257.2 1 (⟨#[]⟩ : ByteArray) a0_0 l0_1 a0_2 a0_3 l0_4 l0_5 a0_6)))) else (none)) else (none)) = some r := by rw [if_pos rfl] at H; exact H
     clear H; have H := H1; clear H1
     by_cases c18 : 0 ≤ x4_1
     rotate_left
     ·
      rw [if_neg c18] at H
      exact absurd H (by simp)
     rw [if_pos c18] at H
     have c18b0 : decide (0 ≤ x4_1) = true := decide_eq_true c18
     clear c18
     by_cases c19 : x4_1 < (l0_5.length : Int)
     rotate_left
     ·
      rw [if_neg c19] at H
      exact absurd H (by simp)
     rw [if_pos c19] at H
     have c19b0 : decide (x4_1 < (l0_5.length : Int)) = true := decide_eq_true c19
     clear c19
     replace H := Option.bind_eq_some_iff.mp H
     obtain ⟨⟨t257, t258⟩, A200, H⟩ := H
     replace H : ((thresherref13_Job.f kj12 ((rd_T63 l0_5 x4_1).f0) ((rd_T63 l0_5 x4_1).f1) ((rd_T63 l0_5 x4_1).f2) ((rd_T63 l0_5 x4_1).f3) ((rd_T63 l0_5 x4_1).f4) ((rd_T63 l0_5 x4_1).f5) ((rd_T63 l0_5 x4_1).f6)).bind fun t260 => (if t260 = true then ((thresherref13_Bytes.f kj12 ((rd_T63 l0_5 x4_1).f0) ((rd_T63 l0_5 x4_1).f1) ((rd_T63 l0_5 x4_1).f2) ((rd_T63 l0_5 x4_1).f3) ((rd_T63 l0_5 x4_1).f4) ((rd_T63 l0_5 x4_1).f5) ((rd_T63 l0_5 x4_1).f6)).bind fun t262 => (if t262.size + 1 ≤ 9223372036854775807 then ((some (([t262, t262 ++ (⟨#[120]⟩ : ByteArray)] : List ByteArray) : List ByteArray)).bind fun y263 => (if x3_1.length + y263.length < 8796093022208 then (thresherlaw14_JobBytes.l1 kj12 (x3_1 ++ y263) x4_1 t257 t258 0 t262 0 a0_0 l0_1 a0_2 a0_3 l0_4 l0_5 a0_6) else (none))) else (none))) else (thresherlaw14_JobBytes.j3 kj12 x3_1 x4_1 t257 t258 1 (⟨#[]⟩ : ByteArray) a0_0 l0_1 a0_2 a0_3 l0_4 l0_5 a0_6))) = some r := H
     have A20 := Aside0.mk A200; clear A200
     replace H := Option.bind_eq_some_iff.mp H
     obtain ⟨t260, A210, H⟩ := H
     replace H : (if t260 = true then ((thresherref13_Bytes.f kj12 ((rd_T63 l0_5 x4_1).f0) ((rd_T63 l0_5 x4_1).f1) ((rd_T63 l0_5 x4_1).f2) ((rd_T63 l0_5 x4_1).f3) ((rd_T63 l0_5 x4_1).f4) ((rd_T63 l0_5 x4_1).f5) ((rd_T63 l0_5 x4_1).f6)).bind fun t262 => (if t262.size + 1 ≤ 9223372036854775807 then ((some (([t262, t262 ++ (⟨#[120]⟩ : ByteArray)] : List ByteArray) : List ByteArray)).bind fun y263 => (if x3_1.length + y263.length < 8796093022208 then (thresherlaw14_JobBytes.l1 kj12 (x3_1 ++ y263) x4_1 t257 t258 0 t262 0 a0_0 l0_1 a0_2 a0_3 l0_4 l0_5 a0_6) else (none))) else (none))) else (thresherlaw14_JobBytes.j3 kj12 x3_1 x4_1 t257 t258 1 (⟨#[]⟩ : ByteArray) a0_0 l0_1 a0_2 a0_3 l0_4 l0_5 a0_6)) = some r := H
     have A21 := Aside0.mk A210; clear A210; have HC22 := Aside0.mk H; clear H
     obtain ⟨hcz23_0, hcz23_1, hcz23_2, hcz23_3, hcz23_4, hcz23_5, hcz23_6, hfz23_0, hfz23_1, hfz23_2, hfz23_3, hfz23_4, hfz23_5, hfz23_6⟩ := blkall_7 BK251.out
     have p256 : 0 ≤ (x4_1 : Int) := of_decide_eq_true (by first | (with_reducible assumption) | assumption)
     have q256 : x4_1 < (l0_5.length : Int) := of_decide_eq_true (by first | (with_reducible assumption) | assumption)
     obtain ⟨ad256, A256_5, c256_5, e256, hx256_0, hx256_1, hx256_2, hx256_3, hx256_4, hx256_5, hx256_6, hl256_5, hi256_5⟩ := at_T63 HR0_5.out x4_1 p256 q256
     cases e256
     replace hx256_0 := (HB.out.cell (World.block_lt_of_cell? w _ hx256_0)).trans hx256_0
     replace hx256_1 := (HB.out.cell (World.block_lt_of_cell? w _ hx256_1)).trans hx256_1
     replace hx256_2 := (HB.out.cell (World.block_lt_of_cell? w _ hx256_2)).trans hx256_2
     replace hx256_3 := (HB.out.cell (World.block_lt_of_cell? w _ hx256_3)).trans hx256_3
     replace hx256_4 := (HB.out.cell (World.block_lt_of_cell? w _ hx256_4)).trans hx256_4
     replace hx256_5 := (HB.out.cell (World.block_lt_of_cell? w _ hx256_5)).trans hx256_5
     replace hx256_6 := (HB.out.cell (World.block_lt_of_cell? w _ hx256_6)).trans hx256_6
     have HR256_5 := Aside0.mk hi256_5; have HC256_5 := Aside0.mk hl256_5; clear hi256_5 hl256_5
     replace p256 := eq_true p256
     replace q256 := eq_true q256
     go_upto_if 47 with (first | ((with_reducible refine gate_callee (f := 24) rfl ?_); refine goesL_ (some 39) rfl rfl Tryz.func24 (by kernel_rfl) rfl #[.agg #[.int .i64 ((rd_T63 l0_5 x4_1).f0), .string ((rd_T63 l0_5 x4_1).f1), .int .i64 ((rd_T63 l0_5 x4_1).f2), .int .i64 ((rd_T63 l0_5 x4_1).f3), .int .i64 ((rd_T63 l0_5 x4_1).f4), .slice A256_5 ((rd_T63 l0_5 x4_1).f5).length c256_5, .int .i64 ((rd_T63 l0_5 x4_1).f6)]] rfl (by (try simp only [List.map_toArray, List.map_cons, List.map_nil]); first | done | rfl | (simp only [List.length_drop, List.length_take]; rfl)) ?_; (with_reducible refine (job_Bytes.calls kj12 ((rd_T63 l0_5 x4_1).f0) ((rd_T63 l0_5 x4_1).f1) ((rd_T63 l0_5 x4_1).f2) ((rd_T63 l0_5 x4_1).f3) ((rd_T63 l0_5 x4_1).f4) _ _ ((rd_T63 l0_5 x4_1).f5) ((rd_T63 l0_5 x4_1).f6) t257 t258 _ ?side1 ?side2 A20.out).mono ?_); (case side1 => repeat (first | exact (Kd.C_below HR256_5.out HB.out) | (with_reducible refine Kd.C_alloc ?_ _) | (with_reducible refine Kd.C_drewN ?_ _) | (with_reducible refine Kd.C_drew ?_))); (case side2 => exact HC256_5.out); rintro e w24 ⟨rfl, hb⟩; refine ⟨_, rfl, ?_⟩; have n0_ := Aside0.mk (Kd.R_below (by (with_reducible repeat (first | apply Kd.R_alloc | apply Kd.R_drewN | apply Kd.R_drew)); exact HO_3.out) hb); have n1_ := Aside0.mk (blk_below (blk_up BK251.out) hb); have n2_ := Aside0.mk (below_step (by repeat (first | (with_reducible first | exact HB.out | apply below_alloc | apply pw_below_drewN | apply below_drew1 | refine below_setA ?_ ‹_›) | exact HB.out)) hb); clear HO_3; clear BK251; clear HB; have HO_3 := n0_; have BK251 := n1_; have HB := n2_; clear n0_ n1_ n2_; (try clear hb); (try clear hb2); (try clear hk); (try clear hi); obtain ⟨hcz25_0, hcz25_1, hcz25_2, hcz25_3, hcz25_4, hcz25_5, hcz25_6, hfz25_0, hfz25_1, hfz25_2, hfz25_3, hfz25_4, hfz25_5, hfz25_6⟩ := blkall_7 BK251.out; have p259 : 0 ≤ (x4_1 : Int) := of_decide_eq_true (by first | (with_reducible assumption) | assumption); have q259 : x4_1 < (l0_5.length : Int) := of_decide_eq_true (by first | (with_reducible assumption) | assumption); obtain ⟨ad259, A259_5, c259_5, e259, hx259_0, hx259_1, hx259_2, hx259_3, hx259_4, hx259_5, hx259_6, hl259_5, hi259_5⟩ := at_T63 HR0_5.out x4_1 p259 q259; obtain rfl : ad256 = ad259 := (by injection e259); replace hx259_0 := (HB.out.cell (World.block_lt_of_cell? w _ hx259_0)).trans hx259_0; replace hx259_1 := (HB.out.cell (World.block_lt_of_cell? w _ hx259_1)).trans hx259_1; replace hx259_2 := (HB.out.cell (World.block_lt_of_cell? w _ hx259_2)).trans hx259_2; replace hx259_3 := (HB.out.cell (World.block_lt_of_cell? w _ hx259_3)).trans hx259_3; replace hx259_4 := (HB.out.cell (World.block_lt_of_cell? w _ hx259_4)).trans hx259_4; replace hx259_5 := (HB.out.cell (World.block_lt_of_cell? w _ hx259_5)).trans hx259_5; replace hx259_6 := (HB.out.cell (World.block_lt_of_cell? w _ hx259_6)).trans hx259_6; have HR259_5 := Aside0.mk hi259_5; have HC259_5 := Aside0.mk hl259_5; clear hi259_5 hl259_5; replace p259 := eq_true p259; replace q259 := eq_true q259) | ((with_reducible refine gate_callee (f := 25) rfl ?_); refine goesL_ (some 47) rfl rfl Tryz.func25 (by kernel_rfl) rfl #[.agg #[.int .i64 ((rd_T63 l0_5 x4_1).f0), .string ((rd_T63 l0_5 x4_1).f1), .int .i64 ((rd_T63 l0_5 x4_1).f2), .int .i64 ((rd_T63 l0_5 x4_1).f3), .int .i64 ((rd_T63 l0_5 x4_1).f4), .slice A259_5 ((rd_T63 l0_5 x4_1).f5).length c259_5, .int .i64 ((rd_T63 l0_5 x4_1).f6)]] rfl (by (try simp only [List.map_toArray, List.map_cons, List.map_nil]); first | done | rfl | (simp only [List.length_drop, List.length_take]; rfl)) ?_; (with_reducible refine (thresherref13_Job.calls kj12 ((rd_T63 l0_5 x4_1).f0) ((rd_T63 l0_5 x4_1).f1) ((rd_T63 l0_5 x4_1).f2) ((rd_T63 l0_5 x4_1).f3) ((rd_T63 l0_5 x4_1).f4) _ _ ((rd_T63 l0_5 x4_1).f5) ((rd_T63 l0_5 x4_1).f6) t260 _ ?side1 ?side2 A21.out).mono ?_); (case side1 => repeat (first | exact (Kd.C_below HR259_5.out HB.out) | (with_reducible refine Kd.C_alloc ?_ _) | (with_reducible refine Kd.C_drewN ?_ _) | (with_reducible refine Kd.C_drew ?_))); (case side2 => exact HC259_5.out); rintro e w26 ⟨rfl, hb⟩; refine ⟨_, rfl, ?_⟩; have n0_ := Aside0.mk (Kd.R_below (by (with_reducible repeat (first | apply Kd.R_alloc | apply Kd.R_drewN | apply Kd.R_drew)); exact HO_3.out) hb); have n1_ := Aside0.mk (blk_below (blk_up BK251.out) hb); have n2_ := Aside0.mk (below_step (by repeat (first | (with_reducible first | exact HB.out | apply below_alloc | apply pw_below_drewN | apply below_drew1 | refine below_setA ?_ ‹_›) | exact HB.out)) hb); clear HO_3; clear BK251; clear HB; have HO_3 := n0_; have BK251 := n1_; have HB := n2_; clear n0_ n1_ n2_; (try clear hb); (try clear hb2); (try clear hk); (try clear hi)))
     (try simp only [Act.put, List.setIfInBounds_toArray, List.set_cons_zero, List.set_cons_succ])
     go_cut [3, 7, 8] (fun v3 v7 v8 wc => ∃ (kq : Nat) (x3_21 : List ByteArray) (x7_21 : Int) (x8_21 : ByteArray), v7 = .int .i64 x7_21 ∧ v8 = .string x8_21 ∧ Aside0 (thresherlaw14_JobBytes.j3 kq x3_21 x4_1 t257 t258 x7_21 x8_21 a0_0 l0_1 a0_2 a0_3 l0_4 l0_5 a0_6 = some r) ∧ Aside0 (kq ≤ kj12) ∧ Aside0 (Kd.R Kd.string 9 wc w.heap.size (fun _ => True) v3 x3_21) ∧ Aside0 (wc.heap[gb251]? = some (.cells #[.int .i64 a0_0, (.slice A0_1 l0_1.length c0_1), .int .i64 a0_2, .int .i64 a0_3, (.slice A0_4 l0_4.length c0_4), (.slice (some ad256) l0_5.length c0_5), .string a0_6] 57 (0, 0))) ∧ Aside0 (Below w.heap.size w wc))
     case first =>
      have H := HC22.out; clear HC22
      by_cases c27 : t260 = true
      rotate_left
      ·
       replace c27 := Bool.eq_false_iff.mpr c27
       subst c27
       have H1 : (thresherlaw14_JobBytes.j3 kj12 x3_1 x4_1 t257 t258 1 (⟨#[]⟩ : ByteArray) a0_0 l0_1 a0_2 a0_3 l0_4 l0_5 a0_6) = some r := by rw [if_neg (show ¬ (false = true) by decide)] at H; exact H
       clear H; have H := H1; clear H1
       have H' := Aside0.mk H
       clear H
       go_wp2
       go_meet
       case rel => exact ⟨_, (x3_1), (1), ((⟨#[]⟩ : ByteArray)), (by first | rfl | (simp; done) | (simp [*]; done)), (by first | rfl | (simp; done) | (simp [*]; done)), H', ⟨by have := HK1.out; have := HJ12.out; first | omega | exact Nat.le_refl _⟩, ⟨by (with_reducible repeat (first | apply Kd.R_alloc | apply Kd.R_drewN | apply Kd.R_drew)); exact HO_3.out⟩, ⟨blk_up BK251.out⟩, ⟨by repeat (first | (with_reducible first | exact HB.out | apply below_alloc | apply pw_below_drewN | apply below_drew1 | refine below_setA ?_ ‹_›) | exact HB.out)⟩⟩
      subst c27
      have H1 : ((thresherref13_Bytes.f kj12 ((rd_T63 l0_5 x4_1).f0) ((rd_T63 l0_5 x4_1).f1) ((rd_T63 l0_5 x4_1).f2) ((rd_T63 l0_5 x4_1).f3) ((rd_T63 l0_5 x4_1).f4) ((rd_T63 l0_5 x4_1).f5) ((rd_T63 l0_5 x4_1).f6)).bind fun t262 => (if t262.size + 1 ≤ 9223372036854775807 then ((some (([t262, t262 ++ (⟨#[120]⟩ : ByteArray)] : List ByteArray) : List ByteArray)).bind fun y263 => (if x3_1.length + y263.length < 8796093022208 then (thresherlaw14_JobBytes.l1 kj12 (x3_1 ++ y263) x4_1 t257 t258 0 t262 0 a0_0 l0_1 a0_2 a0_3 l0_4 l0_5 a0_6) else (none))) else (none))) = some r := by rw [if_pos rfl] at H; exact H
      clear H; have H := H1; clear H1
      replace H := Option.bind_eq_some_iff.mp H
      obtain ⟨t262, A280, H⟩ := H
      replace H : (if t262.size + 1 ≤ 9223372036854775807 then ((some (([t262, t262 ++ (⟨#[120]⟩ : ByteArray)] : List ByteArray) : List ByteArray)).bind fun y263 => (if x3_1.length + y263.length < 8796093022208 then (thresherlaw14_JobBytes.l1 kj12 (x3_1 ++ y263) x4_1 t257 t258 0 t262 0 a0_0 l0_1 a0_2 a0_3 l0_4 l0_5 a0_6) else (none))) else (none)) = some r := H
      have A28 := Aside0.mk A280; clear A280
      by_cases c29 : t262.size + 1 ≤ 9223372036854775807
      rotate_left
      ·
       rw [if_neg c29] at H
       exact absurd H (by simp)
      rw [if_pos c29] at H
      have c29b0 := eq_true c29
      have c29b1 : decide (t262.size + 1 ≤ 9223372036854775807) = true := decide_eq_true c29
      try have c29b2 : (9223372036854775807 < t262.size + 1) = False := eq_false (Nat.not_lt.2 c29)
      try (have c29b3 := c29b2; simp only [ByteArray.size_append, ByteArray.size_extract, Nat.min_self] at c29b3)
      obtain ⟨y263, hy263⟩ : ∃ y_ : List ByteArray, y_ = (([t262, t262 ++ (⟨#[120]⟩ : ByteArray)] : List ByteArray)) := ⟨_, rfl⟩
      replace H : (if x3_1.length + y263.length < 8796093022208 then (thresherlaw14_JobBytes.l1 kj12 (x3_1 ++ y263) x4_1 t257 t258 0 t262 0 a0_0 l0_1 a0_2 a0_3 l0_4 l0_5 a0_6) else (none)) = some r := by first | (rw [hy263]; with_reducible exact H) | (have H2_ := (Option.bind_some _ _).symm.trans H; rw [hy263]; with_reducible exact H2_) | (have H2_ := (Option.bind_some _ _).symm.trans H; with_reducible exact H2_) | with_reducible exact H | (rw [hy263]; exact H) | exact H
      have Ny263 := Aside0.mk hy263; clear hy263
      by_cases c30 : x3_1.length + y263.length < 8796093022208
      rotate_left
      ·
       rw [if_neg c30] at H
       exact absurd H (by simp)
      rw [if_pos c30] at H
      have LMc30 := Aside0.mk c30; clear c30
      obtain ⟨y266, hy266⟩ : ∃ y_ : List ByteArray, y_ = (x3_1 ++ y263) := ⟨_, rfl⟩
      replace H : (thresherlaw14_JobBytes.l1 kj12 y266 x4_1 t257 t258 0 t262 0 a0_0 l0_1 a0_2 a0_3 l0_4 l0_5 a0_6) = some r := by first | (rw [hy266]; with_reducible exact H) | (have H2_ := (Option.bind_some _ _).symm.trans H; rw [hy266]; with_reducible exact H2_) | (have H2_ := (Option.bind_some _ _).symm.trans H; with_reducible exact H2_) | with_reducible exact H | (rw [hy266]; exact H) | exact H
      have Ny266 := Aside0.mk hy266; clear hy266
      have H' := Aside0.mk H
      clear H
      obtain ⟨hcz31_0, hcz31_1, hcz31_2, hcz31_3, hcz31_4, hcz31_5, hcz31_6, hfz31_0, hfz31_1, hfz31_2, hfz31_3, hfz31_4, hfz31_5, hfz31_6⟩ := blkall_7 BK251.out
      have p261 : 0 ≤ (x4_1 : Int) := of_decide_eq_true (by first | (with_reducible assumption) | assumption)
      have q261 : x4_1 < (l0_5.length : Int) := of_decide_eq_true (by first | (with_reducible assumption) | assumption)
      obtain ⟨ad261, A261_5, c261_5, e261, hx261_0, hx261_1, hx261_2, hx261_3, hx261_4, hx261_5, hx261_6, hl261_5, hi261_5⟩ := at_T63 HR0_5.out x4_1 p261 q261
      obtain rfl : ad256 = ad261 := (by injection e261)
      replace hx261_0 := (HB.out.cell (World.block_lt_of_cell? w _ hx261_0)).trans hx261_0
      replace hx261_1 := (HB.out.cell (World.block_lt_of_cell? w _ hx261_1)).trans hx261_1
      replace hx261_2 := (HB.out.cell (World.block_lt_of_cell? w _ hx261_2)).trans hx261_2
      replace hx261_3 := (HB.out.cell (World.block_lt_of_cell? w _ hx261_3)).trans hx261_3
      replace hx261_4 := (HB.out.cell (World.block_lt_of_cell? w _ hx261_4)).trans hx261_4
      replace hx261_5 := (HB.out.cell (World.block_lt_of_cell? w _ hx261_5)).trans hx261_5
      replace hx261_6 := (HB.out.cell (World.block_lt_of_cell? w _ hx261_6)).trans hx261_6
      have HR261_5 := Aside0.mk hi261_5; have HC261_5 := Aside0.mk hl261_5; clear hi261_5 hl261_5
      replace p261 := eq_true p261
      replace q261 := eq_true q261
      go_wp2_with (first | ((with_reducible refine gate_callee (f := 26) rfl ?_); refine goesL_ (some 53) rfl rfl Tryz.func26 (by kernel_rfl) rfl #[.agg #[.int .i64 ((rd_T63 l0_5 x4_1).f0), .string ((rd_T63 l0_5 x4_1).f1), .int .i64 ((rd_T63 l0_5 x4_1).f2), .int .i64 ((rd_T63 l0_5 x4_1).f3), .int .i64 ((rd_T63 l0_5 x4_1).f4), .slice A261_5 ((rd_T63 l0_5 x4_1).f5).length c261_5, .int .i64 ((rd_T63 l0_5 x4_1).f6)]] rfl (by (try simp only [List.map_toArray, List.map_cons, List.map_nil]); first | done | rfl | (simp only [List.length_drop, List.length_take]; rfl)) ?_; (with_reducible refine (thresherref13_Bytes.calls kj12 ((rd_T63 l0_5 x4_1).f0) ((rd_T63 l0_5 x4_1).f1) ((rd_T63 l0_5 x4_1).f2) ((rd_T63 l0_5 x4_1).f3) ((rd_T63 l0_5 x4_1).f4) _ _ ((rd_T63 l0_5 x4_1).f5) ((rd_T63 l0_5 x4_1).f6) t262 _ ?side1 ?side2 A28.out).mono ?_); (case side1 => repeat (first | exact (Kd.C_below HR261_5.out HB.out) | (with_reducible refine Kd.C_alloc ?_ _) | (with_reducible refine Kd.C_drewN ?_ _) | (with_reducible refine Kd.C_drew ?_))); (case side2 => exact HC261_5.out); rintro e w32 ⟨rfl, hb⟩; refine ⟨_, rfl, ?_⟩; have n0_ := Aside0.mk (Kd.R_below (by (with_reducible repeat (first | apply Kd.R_alloc | apply Kd.R_drewN | apply Kd.R_drew)); exact HO_3.out) hb); have n1_ := Aside0.mk (blk_below (blk_up BK251.out) hb); have n2_ := Aside0.mk (below_step (by repeat (first | (with_reducible first | exact HB.out | apply below_alloc | apply pw_below_drewN | apply below_drew1 | refine below_setA ?_ ‹_›) | exact HB.out)) hb); clear HO_3; clear BK251; clear HB; have HO_3 := n0_; have BK251 := n1_; have HB := n2_; clear n0_ n1_ n2_; (try clear hb); (try clear hb2); (try clear hk); (try clear hi)) | ((with_reducible refine gate_dst (N := 58) rfl ?_); refine Kd.R_lit Kd.string _ 9 ?hg (N := 58) ?hd (xs := ([t262, t262 ++ (⟨#[120]⟩ : ByteArray)] : List ByteArray)) (inner := [.string t262, .string (t262 ++ (⟨#[120]⟩ : ByteArray))]) (ok := fun _ => True) (okp := fun _ => True) ?hr ?hp (fun _ hk => hk) trivial (Below.refl _ _) (Nat.le_refl _) (by simp) ?_; (case hd => rfl); (case hg => rfl); (case hr => first | (go_simp; done) | (go_simp; rfl)); (case hp => exact (Reps.one (show Kd.M Kd.string _ _ _ t262 [.string t262] from rfl) (Reps.one (show Kd.M Kd.string _ _ _ (t262 ++ (⟨#[120]⟩ : ByteArray)) [.string (t262 ++ (⟨#[120]⟩ : ByteArray))] from rfl) (Reps.none _ _)))); intro v264 w33 ho34 hb hg_ hnew_; clear hg_ hnew_; (first | rw [← Ny263.out] at ho34 | (simp only [Int.reduceToNat] at ho34; rw [← Ny263.out] at ho34)); have n0_ := Aside0.mk (Kd.R_elder' (by (with_reducible repeat (first | apply Kd.R_alloc | apply Kd.R_drewN | apply Kd.R_drew)); exact HO_3.out) (Kd.R_base ho34) hb); have n1_ := Aside0.mk (Kd.R_lower (Kd.R_new' ho34 (Kd.R_lt (by (with_reducible repeat (first | apply Kd.R_alloc | apply Kd.R_drewN | apply Kd.R_drew)); exact HO_3.out))) (below_size (by repeat (first | (with_reducible first | exact HB.out | apply below_alloc | apply pw_below_drewN | apply below_drew1 | refine below_setA ?_ ‹_›) | exact HB.out)))); have n2_ := Aside0.mk (blk_below (blk_up BK251.out) hb); have n3_ := Aside0.mk (below_step (by repeat (first | (with_reducible first | exact HB.out | apply below_alloc | apply pw_below_drewN | apply below_drew1 | refine below_setA ?_ ‹_›) | exact HB.out)) hb); clear HO_3; clear BK251; clear HB; have HO_3 := n0_; have HO265 := n1_; have BK251 := n2_; have HB := n3_; clear n0_ n1_ n2_ n3_; clear hb ho34; obtain ⟨Ao36, co36, eo36⟩ := Kd.R_slice HO265.out; subst eo36) | ((with_reducible refine gate_builtin (b := .append) (xs := #[.tmp 54, .tmp 58]) rfl ?_); at_builtin; refine Kd.R_append_rows Kd.string (w0 := w) w.heap.size rfl (.tmp 54) (.tmp 58) 59 9 (.string ⟨#[]⟩) 16 rfl Tryz.underlying59 info9 rfl (by decide) (by omega) u3 x3_1 y263 _ _ _ (fun k_ => some k_ ≠ (.slice Ao36 y263.length co36 : Value).ownBlock) (fun _ => False) rfl rfl ?aO ?aR (fun _ _ h => h) (fun _ h => h.elim) ?aF ?aB ?aS ?aL ?_; (case aR => repeat (first | exact (Kd.R_reads' HO265.out).2.2 | (with_reducible refine Kd.C_alloc ?_ _) | (with_reducible refine Kd.C_drewN ?_ _) | (with_reducible refine Kd.C_drew ?_))); (case aB => exact (by repeat (first | (with_reducible first | exact HB.out | apply below_alloc | apply pw_below_drewN | apply below_drew1 | refine below_setA ?_ ‹_›) | exact HB.out))); (case aF => exact (fun k_ hk => Kd.fresh' (Kd.R_lt (by (with_reducible repeat (first | apply Kd.R_alloc | apply Kd.R_drewN | apply Kd.R_drew)); exact HO265.out)) k_ hk)); (case aO => exact (by (with_reducible repeat (first | apply Kd.R_alloc | apply Kd.R_drewN | apply Kd.R_drew)); exact Kd.R_mono HO_3.out (fun _ hk => hk.2))); (case aS => exact (below_size (by repeat (first | (with_reducible first | exact HB.out | apply below_alloc | apply pw_below_drewN | apply below_drew1 | refine below_setA ?_ ‹_›) | exact HB.out)))); (case aL => have := LMc30.out; omega); intro v267 w35 ho hb hg hat; rw [← Ny266.out] at ho; have n0_ := Aside0.mk (blk_grown (blk_up BK251.out) hg (Kd.R_ne HO_3.out BK251.out (by decide))); have n1_ := Aside0.mk (Kd.R_after (ok := (fun _ => True)) (by (with_reducible repeat (first | apply Kd.R_alloc | apply Kd.R_drewN | apply Kd.R_drew)); exact HO265.out) hg hat); have n2_ := Aside0.mk (hb); have n3_ := Aside0.mk (ho); clear BK251; clear HO265; clear HB; clear HO_3; have BK251 := n0_; have HO265 := n1_; have HB := n2_; have HO268 := n3_; clear n0_ n1_ n2_ n3_; clear ho hb hg hat))
      go_loopg [3, 9] kj12 (fun kq v3 v9 w' => ∃ (x3_3 : List ByteArray) (x9_3 : Int), v9 = .int .i64 x9_3 ∧ Aside0 (thresherlaw14_JobBytes.l1 kq x3_3 x4_1 t257 t258 0 t262 x9_3 a0_0 l0_1 a0_2 a0_3 l0_4 l0_5 a0_6 = some r) ∧ Aside0 (kq ≤ kj12) ∧ Aside0 (Kd.R Kd.string 9 w' w.heap.size (fun _ => True) v3 x3_3) ∧ Aside0 (w'.heap[gb251]? = some (.cells #[.int .i64 a0_0, (.slice A0_1 l0_1.length c0_1), .int .i64 a0_2, .int .i64 a0_3, (.slice A0_4 l0_4.length c0_4), (.slice (some ad256) l0_5.length c0_5), .string a0_6] 57 (0, 0))) ∧ Aside0 (Below w.heap.size w w'))
      case atStart => exact ⟨(y266), (0), (by first | rfl | (simp; done) | (simp [*]; done)), H', ⟨Nat.le_refl _⟩, ⟨by (with_reducible repeat (first | apply Kd.R_alloc | apply Kd.R_drewN | apply Kd.R_drew)); exact Kd.R_mono HO268.out (fun _ hk => trivial)⟩, ⟨blk_up BK251.out⟩, ⟨by repeat (first | (with_reducible first | exact HB.out | apply below_alloc | apply pw_below_drewN | apply below_drew1 | refine below_setA ?_ ‹_›) | exact HB.out)⟩⟩
      case round =>
       clear H'
       (try clear c17); (try clear c18); (try clear c18b0); (try clear c19); (try clear c19b0); (try clear c27); (try clear c29); (try clear c29b0); (try clear c29b1); (try clear c29b2); (try clear c30); (try clear hcz23_0); (try clear hcz23_1); (try clear hcz23_2); (try clear hcz23_3); (try clear hcz23_4); (try clear hcz23_5); (try clear hcz23_6); (try clear hcz25_0); (try clear hcz25_1); (try clear hcz25_2); (try clear hcz25_3); (try clear hcz25_4); (try clear hcz25_5); (try clear hcz25_6); (try clear hcz31_0); (try clear hcz31_1); (try clear hcz31_2); (try clear hcz31_3); (try clear hcz31_4); (try clear hcz31_5); (try clear hcz31_6); (try clear hfz23_0); (try clear hfz23_1); (try clear hfz23_2); (try clear hfz23_3); (try clear hfz23_4); (try clear hfz23_5); (try clear hfz23_6); (try clear hfz25_0); (try clear hfz25_1); (try clear hfz25_2); (try clear hfz25_3); (try clear hfz25_4); (try clear hfz25_5); (try clear hfz25_6); (try clear hfz31_0); (try clear hfz31_1); (try clear hfz31_2); (try clear hfz31_3); (try clear hfz31_4); (try clear hfz31_5); (try clear hfz31_6); (try clear hx256_0); (try clear hx256_1); (try clear hx256_2); (try clear hx256_3); (try clear hx256_4); (try clear hx256_5); (try clear hx256_6); (try clear hx259_0); (try clear hx259_1); (try clear hx259_2); (try clear hx259_3); (try clear hx259_4); (try clear hx259_5); (try clear hx259_6); (try clear hx261_0); (try clear hx261_1); (try clear hx261_2); (try clear hx261_3); (try clear hx261_4); (try clear hx261_5); (try clear hx261_6); (try clear p256); (try clear p259); (try clear p261); (try clear q256); (try clear q259); (try clear q261)
       obtain ⟨x3_3, x9_3, rfl, HA, HK3, HO_3, BK251, HB⟩ := hrel
       cases gk with
       | zero => exact absurd HA.out (by simp [thresherlaw14_JobBytes.l1])
       | succ k3 =>
        have H := HA.out; clear HA
        simp only [thresherlaw14_JobBytes.l1] at H
        by_cases c37 : x9_3 < (t262.size : Int)
        rotate_left
        ·
         rw [if_neg c37] at H
         have c37b0 : decide (x9_3 < (t262.size : Int)) = false := decide_eq_false c37
         clear c37
         (first | rw [c37b0] | (simp only [i64_w, i32_w]; rw [c37b0]) | skip)
         have H' := Aside0.mk H
         clear H
         go_wp2
         go_meet
         case rel => exact ⟨_, (x3_3), (0), (t262), (by first | rfl | (simp; done) | (simp [*]; done)), (by first | rfl | (simp; done) | (simp [*]; done)), H', ⟨by have := HK1.out; have := HJ12.out; have := HK3.out; first | omega | exact Nat.le_refl _⟩, ⟨by (with_reducible repeat (first | apply Kd.R_alloc | apply Kd.R_drewN | apply Kd.R_drew)); exact HO_3.out⟩, ⟨blk_up BK251.out⟩, ⟨by repeat (first | (with_reducible first | exact HB.out | apply below_alloc | apply pw_below_drewN | apply below_drew1 | refine below_setA ?_ ‹_›) | exact HB.out)⟩⟩
        rw [if_pos c37] at H
        have c37b0 : decide (x9_3 < (t262.size : Int)) = true := decide_eq_true c37
        clear c37
        (first | rw [c37b0] | (simp only [i64_w, i32_w]; rw [c37b0]) | skip)
        by_cases c38 : 0 ≤ x9_3
        rotate_left
        ·
         rw [if_neg c38] at H
         exact absurd H (by simp)
        rw [if_pos c38] at H
        have c38b0 := eq_true c38
        have c38b1 : decide (0 ≤ x9_3) = true := decide_eq_true c38
        clear c38
        by_cases c39 : x9_3 ≤ (t262.size : Int)
        rotate_left
        ·
         rw [if_neg c39] at H
         exact absurd H (by simp)
        rw [if_pos c39] at H
        have c39b0 := eq_true c39
        have c39b1 : decide (x9_3 ≤ (t262.size : Int)) = true := decide_eq_true c39
        clear c39
        by_cases c40 : x3_3.length < 8796093022208
        rotate_left
        ·
         rw [if_neg c40] at H
         exact absurd H (by simp)
        rw [if_pos c40] at H
        have LMc40 := Aside0.mk c40; clear c40
        obtain ⟨y269, hy269⟩ : ∃ y_ : List ByteArray, y_ = (x3_3 ++ [t262.extract 0 (x9_3 : Int).toNat]) := ⟨_, rfl⟩
        replace H : (thresherlaw14_JobBytes.l1 k3 y269 x4_1 t257 t258 0 t262 (wrap64 ((wrap64 (x9_3 + 1)) + (wrap64 ((t262.size : Int) / 9)))) a0_0 l0_1 a0_2 a0_3 l0_4 l0_5 a0_6) = some r := by first | (rw [hy269]; with_reducible exact H) | (have H2_ := (Option.bind_some _ _).symm.trans H; rw [hy269]; with_reducible exact H2_) | (have H2_ := (Option.bind_some _ _).symm.trans H; with_reducible exact H2_) | with_reducible exact H | (rw [hy269]; exact H) | exact H
        have Ny269 := Aside0.mk hy269; clear hy269
        have H' := Aside0.mk H
        clear H
        go_wp2_with (first | ((with_reducible refine gate_builtin (b := .append) (xs := #[.tmp 70, .tmp 74]) rfl ?_); at_builtin; refine Kd.R_append Kd.string (w0 := w) w.heap.size rfl (.tmp 70) (.tmp 74) 59 9 (.string ⟨#[]⟩) 16 rfl Tryz.underlying59 info9 rfl (by decide) (by omega) u3 x3_3 (t262.extract 0 (x9_3 : Int).toNat) [.string (t262.extract 0 (x9_3 : Int).toNat)] (fun _ => True) (fun _ => False) rfl rfl ?aP (fun _ hk => hk.elim) ?aF ?aO ?aB ?aS ?aL ?_; (case aP => exact rfl); (case aB => exact (by repeat (first | (with_reducible first | exact HB.out | apply below_alloc | apply pw_below_drewN | apply below_drew1 | refine below_setA ?_ ‹_›) | exact HB.out))); (case aF => exact (fun _ _ => trivial)); (case aO => exact (by (with_reducible repeat (first | apply Kd.R_alloc | apply Kd.R_drewN | apply Kd.R_drew)); exact HO_3.out)); (case aS => exact (below_size (by repeat (first | (with_reducible first | exact HB.out | apply below_alloc | apply pw_below_drewN | apply below_drew1 | refine below_setA ?_ ‹_›) | exact HB.out)))); (case aL => have := LMc40.out; omega); intro v270 w41 ho hb hg hat; rw [← Ny269.out] at ho; have n0_ := Aside0.mk (blk_grown (blk_up BK251.out) hg (Kd.R_ne HO_3.out BK251.out (by decide))); have n1_ := Aside0.mk (hb); have n2_ := Aside0.mk (ho); clear BK251; clear HB; clear HO_3; have BK251 := n0_; have HB := n1_; have HO271 := n2_; clear n0_ n1_ n2_; clear ho hb hg hat))
        go_roundg k3
        case measure => have := HK1.out; have := HJ12.out; have := HK3.out; omega
        case rel => exact ⟨(y269), (wrap64 ((wrap64 (x9_3 + 1)) + (wrap64 ((t262.size : Int) / 9)))), (by first | rfl | (simp; done) | (simp [*]; done)), H', ⟨by have := HK1.out; have := HJ12.out; have := HK3.out; omega⟩, ⟨by (with_reducible repeat (first | apply Kd.R_alloc | apply Kd.R_drewN | apply Kd.R_drew)); exact HO271.out⟩, ⟨blk_up BK251.out⟩, ⟨by repeat (first | (with_reducible first | exact HB.out | apply below_alloc | apply pw_below_drewN | apply below_drew1 | refine below_setA ?_ ‹_›) | exact HB.out)⟩⟩
     case rest =>
      clear HC22
      (try clear c17); (try clear c18); (try clear c18b0); (try clear c19); (try clear c19b0); (try clear hcz23_0); (try clear hcz23_1); (try clear hcz23_2); (try clear hcz23_3); (try clear hcz23_4); (try clear hcz23_5); (try clear hcz23_6); (try clear hcz25_0); (try clear hcz25_1); (try clear hcz25_2); (try clear hcz25_3); (try clear hcz25_4); (try clear hcz25_5); (try clear hcz25_6); (try clear hfz23_0); (try clear hfz23_1); (try clear hfz23_2); (try clear hfz23_3); (try clear hfz23_4); (try clear hfz23_5); (try clear hfz23_6); (try clear hfz25_0); (try clear hfz25_1); (try clear hfz25_2); (try clear hfz25_3); (try clear hfz25_4); (try clear hfz25_5); (try clear hfz25_6); (try clear hx256_0); (try clear hx256_1); (try clear hx256_2); (try clear hx256_3); (try clear hx256_4); (try clear hx256_5); (try clear hx256_6); (try clear hx259_0); (try clear hx259_1); (try clear hx259_2); (try clear hx259_3); (try clear hx259_4); (try clear hx259_5); (try clear hx259_6); (try clear p256); (try clear p259); (try clear q256); (try clear q259)
      obtain ⟨kq, x3_21, x7_21, x8_21, rfl, rfl, HA, HJ21, HO_3, BK251, HB⟩ := hcut
      cases kq with
      | zero => exact absurd HA.out (by simp [thresherlaw14_JobBytes.j3])
      | succ kj21 =>
       have H := HA.out; clear HA
       simp only [thresherlaw14_JobBytes.j3] at H
       have HC42 := Aside0.mk H; clear H
       go_upto_region 16 with (fail)
       go_cut [95] (fun v95 wc => ∃ (kq : Nat) (x95_41 : Bool), v95 = .bool x95_41 ∧ Aside0 (thresherlaw14_JobBytes.j4 kq x3_21 x4_1 t257 x7_21 x95_41 a0_0 l0_1 a0_2 a0_3 l0_4 l0_5 a0_6 = some r) ∧ Aside0 (kq ≤ kj21) ∧ Aside0 (Kd.R Kd.string 9 wc w.heap.size (fun _ => True) u3 x3_21) ∧ Aside0 (wc.heap[gb251]? = some (.cells #[.int .i64 a0_0, (.slice A0_1 l0_1.length c0_1), .int .i64 a0_2, .int .i64 a0_3, (.slice A0_4 l0_4.length c0_4), (.slice (some ad256) l0_5.length c0_5), .string a0_6] 57 (0, 0))) ∧ Aside0 (Below w.heap.size w wc))
       case first =>
        have H := HC42.out; clear HC42
        by_cases c43 : 0 ≤ x4_1
        rotate_left
        ·
         rw [if_neg c43] at H
         exact absurd H (by simp)
        rw [if_pos c43] at H
        have c43b0 : decide (0 ≤ x4_1) = true := decide_eq_true c43
        clear c43
        (first | rw [c43b0] | (simp only [i64_w, i32_w]; rw [c43b0]) | skip)
        by_cases c44 : x4_1 < (l0_5.length : Int)
        rotate_left
        ·
         rw [if_neg c44] at H
         exact absurd H (by simp)
        rw [if_pos c44] at H
        have c44b0 : decide (x4_1 < (l0_5.length : Int)) = true := decide_eq_true c44
        clear c44
        replace H := Option.bind_eq_some_iff.mp H
        obtain ⟨t273, A450, H⟩ := H
        replace H : ((thresherlaw14_num.f t273).bind fun t274 => (if t274 = x7_21 then ((thresherlaw14_num.f t258).bind fun t275 => (if t275 = x7_21 then (thresherlaw14_JobBytes.j4 kj21 x3_21 x4_1 t257 x7_21 (t257.toList != x8_21.toList) a0_0 l0_1 a0_2 a0_3 l0_4 l0_5 a0_6) else (thresherlaw14_JobBytes.j4 kj21 x3_21 x4_1 t257 x7_21 true a0_0 l0_1 a0_2 a0_3 l0_4 l0_5 a0_6))) else (thresherlaw14_JobBytes.j4 kj21 x3_21 x4_1 t257 x7_21 true a0_0 l0_1 a0_2 a0_3 l0_4 l0_5 a0_6))) = some r := H
        have A45 := Aside0.mk A450; clear A450
        replace H := Option.bind_eq_some_iff.mp H
        obtain ⟨t274, A460, H⟩ := H
        replace H : (if t274 = x7_21 then ((thresherlaw14_num.f t258).bind fun t275 => (if t275 = x7_21 then (thresherlaw14_JobBytes.j4 kj21 x3_21 x4_1 t257 x7_21 (t257.toList != x8_21.toList) a0_0 l0_1 a0_2 a0_3 l0_4 l0_5 a0_6) else (thresherlaw14_JobBytes.j4 kj21 x3_21 x4_1 t257 x7_21 true a0_0 l0_1 a0_2 a0_3 l0_4 l0_5 a0_6))) else (thresherlaw14_JobBytes.j4 kj21 x3_21 x4_1 t257 x7_21 true a0_0 l0_1 a0_2 a0_3 l0_4 l0_5 a0_6)) = some r := H
        have A46 := Aside0.mk A460; clear A460
        by_cases c47 : t274 = x7_21
        rotate_left
        ·
         rw [if_neg c47] at H
         have c47b0 : (t274 == x7_21) = false := beq_eq_false_iff_ne.mpr c47
         have c47b1 : (t274 != x7_21) = true := bne_iff_ne.mpr c47
         have H' := Aside0.mk H
         clear H
         obtain ⟨hcz54_0, hcz54_1, hcz54_2, hcz54_3, hcz54_4, hcz54_5, hcz54_6, hfz54_0, hfz54_1, hfz54_2, hfz54_3, hfz54_4, hfz54_5, hfz54_6⟩ := blkall_7 BK251.out
         have p272 : 0 ≤ (x4_1 : Int) := of_decide_eq_true (by first | (with_reducible assumption) | assumption)
         have q272 : x4_1 < (l0_5.length : Int) := of_decide_eq_true (by first | (with_reducible assumption) | assumption)
         obtain ⟨ad272, A272_5, c272_5, e272, hx272_0, hx272_1, hx272_2, hx272_3, hx272_4, hx272_5, hx272_6, hl272_5, hi272_5⟩ := at_T63 HR0_5.out x4_1 p272 q272
         obtain rfl : ad256 = ad272 := (by injection e272)
         replace hx272_0 := (HB.out.cell (World.block_lt_of_cell? w _ hx272_0)).trans hx272_0
         replace hx272_1 := (HB.out.cell (World.block_lt_of_cell? w _ hx272_1)).trans hx272_1
         replace hx272_2 := (HB.out.cell (World.block_lt_of_cell? w _ hx272_2)).trans hx272_2
         replace hx272_3 := (HB.out.cell (World.block_lt_of_cell? w _ hx272_3)).trans hx272_3
         replace hx272_4 := (HB.out.cell (World.block_lt_of_cell? w _ hx272_4)).trans hx272_4
         replace hx272_5 := (HB.out.cell (World.block_lt_of_cell? w _ hx272_5)).trans hx272_5
         replace hx272_6 := (HB.out.cell (World.block_lt_of_cell? w _ hx272_6)).trans hx272_6
         have HR272_5 := Aside0.mk hi272_5; have HC272_5 := Aside0.mk hl272_5; clear hi272_5 hl272_5
         replace p272 := eq_true p272
         replace q272 := eq_true q272
         go_wp2_with (first | ((with_reducible refine gate_callee (f := 28) rfl ?_); refine goesL_ (some 81) rfl rfl Tryz.func28 (by kernel_rfl) rfl #[.agg #[.int .i64 ((rd_T63 l0_5 x4_1).f0), .string ((rd_T63 l0_5 x4_1).f1), .int .i64 ((rd_T63 l0_5 x4_1).f2), .int .i64 ((rd_T63 l0_5 x4_1).f3), .int .i64 ((rd_T63 l0_5 x4_1).f4), .slice A272_5 ((rd_T63 l0_5 x4_1).f5).length c272_5, .int .i64 ((rd_T63 l0_5 x4_1).f6)]] rfl (by (try simp only [List.map_toArray, List.map_cons, List.map_nil]); first | done | rfl | (simp only [List.length_drop, List.length_take]; rfl)) ?_; (with_reducible refine (job_Check.calls kj21 ((rd_T63 l0_5 x4_1).f0) ((rd_T63 l0_5 x4_1).f1) ((rd_T63 l0_5 x4_1).f2) ((rd_T63 l0_5 x4_1).f3) ((rd_T63 l0_5 x4_1).f4) _ _ ((rd_T63 l0_5 x4_1).f5) ((rd_T63 l0_5 x4_1).f6) t273 _ ?side1 ?side2 A45.out).mono ?_); (case side1 => repeat (first | exact (Kd.C_below HR272_5.out HB.out) | (with_reducible refine Kd.C_alloc ?_ _) | (with_reducible refine Kd.C_drewN ?_ _) | (with_reducible refine Kd.C_drew ?_))); (case side2 => exact HC272_5.out); rintro e w55 ⟨rfl, hb⟩; refine ⟨_, rfl, ?_⟩; have n0_ := Aside0.mk (Kd.R_below (by (with_reducible repeat (first | apply Kd.R_alloc | apply Kd.R_drewN | apply Kd.R_drew)); exact HO_3.out) hb); have n1_ := Aside0.mk (blk_below (blk_up BK251.out) hb); have n2_ := Aside0.mk (below_step (by repeat (first | (with_reducible first | exact HB.out | apply below_alloc | apply pw_below_drewN | apply below_drew1 | refine below_setA ?_ ‹_›) | exact HB.out)) hb); clear HO_3; clear BK251; clear HB; have HO_3 := n0_; have BK251 := n1_; have HB := n2_; clear n0_ n1_ n2_; (try clear hb); (try clear hb2); (try clear hk); (try clear hi)) | ((with_reducible refine gate_callee (f := 27) rfl ?_); refine goesL_ (some 82) rfl rfl Tryz.func27 (by kernel_rfl) rfl #[.int .i64 t273] rfl (by (try simp only [List.map_toArray, List.map_cons, List.map_nil]); first | done | rfl | (simp only [List.length_drop, List.length_take]; rfl)) ?_; (with_reducible refine (thresherlaw14_num.calls t273 t274 _ A46.out).mono ?_); rintro e w' ⟨rfl, ⟨nd, rfl⟩⟩; refine ⟨_, rfl, ?_⟩))
         go_meet
         case rel => exact ⟨_, (true), (by first | rfl | (simp; done) | (simp [*]; done)), H', ⟨by have := HK1.out; have := HJ12.out; have := HJ21.out; first | omega | exact Nat.le_refl _⟩, ⟨by (with_reducible repeat (first | apply Kd.R_alloc | apply Kd.R_drewN | apply Kd.R_drew)); exact HO_3.out⟩, ⟨blk_up BK251.out⟩, ⟨by repeat (first | (with_reducible first | exact HB.out | apply below_alloc | apply pw_below_drewN | apply below_drew1 | refine below_setA ?_ ‹_›) | exact HB.out)⟩⟩
        rw [if_pos c47] at H
        have c47b0 : (t274 == x7_21) = true := beq_iff_eq.mpr c47
        have c47b1 : (t274 != x7_21) = false := bne_eq_false_iff_eq.mpr c47
        clear c47
        replace H := Option.bind_eq_some_iff.mp H
        obtain ⟨t275, A480, H⟩ := H
        replace H : (if t275 = x7_21 then (thresherlaw14_JobBytes.j4 kj21 x3_21 x4_1 t257 x7_21 (t257.toList != x8_21.toList) a0_0 l0_1 a0_2 a0_3 l0_4 l0_5 a0_6) else (thresherlaw14_JobBytes.j4 kj21 x3_21 x4_1 t257 x7_21 true a0_0 l0_1 a0_2 a0_3 l0_4 l0_5 a0_6)) = some r := H
        have A48 := Aside0.mk A480; clear A480
        by_cases c49 : t275 = x7_21
        rotate_left
        ·
         rw [if_neg c49] at H
         have c49b0 : (t275 == x7_21) = false := beq_eq_false_iff_ne.mpr c49
         have c49b1 : (t275 != x7_21) = true := bne_iff_ne.mpr c49
         have H' := Aside0.mk H
         clear H
         obtain ⟨hcz52_0, hcz52_1, hcz52_2, hcz52_3, hcz52_4, hcz52_5, hcz52_6, hfz52_0, hfz52_1, hfz52_2, hfz52_3, hfz52_4, hfz52_5, hfz52_6⟩ := blkall_7 BK251.out
         have p272 : 0 ≤ (x4_1 : Int) := of_decide_eq_true (by first | (with_reducible assumption) | assumption)
         have q272 : x4_1 < (l0_5.length : Int) := of_decide_eq_true (by first | (with_reducible assumption) | assumption)
         obtain ⟨ad272, A272_5, c272_5, e272, hx272_0, hx272_1, hx272_2, hx272_3, hx272_4, hx272_5, hx272_6, hl272_5, hi272_5⟩ := at_T63 HR0_5.out x4_1 p272 q272
         obtain rfl : ad256 = ad272 := (by injection e272)
         replace hx272_0 := (HB.out.cell (World.block_lt_of_cell? w _ hx272_0)).trans hx272_0
         replace hx272_1 := (HB.out.cell (World.block_lt_of_cell? w _ hx272_1)).trans hx272_1
         replace hx272_2 := (HB.out.cell (World.block_lt_of_cell? w _ hx272_2)).trans hx272_2
         replace hx272_3 := (HB.out.cell (World.block_lt_of_cell? w _ hx272_3)).trans hx272_3
         replace hx272_4 := (HB.out.cell (World.block_lt_of_cell? w _ hx272_4)).trans hx272_4
         replace hx272_5 := (HB.out.cell (World.block_lt_of_cell? w _ hx272_5)).trans hx272_5
         replace hx272_6 := (HB.out.cell (World.block_lt_of_cell? w _ hx272_6)).trans hx272_6
         have HR272_5 := Aside0.mk hi272_5; have HC272_5 := Aside0.mk hl272_5; clear hi272_5 hl272_5
         replace p272 := eq_true p272
         replace q272 := eq_true q272
         go_wp2_with (first | ((with_reducible refine gate_callee (f := 28) rfl ?_); refine goesL_ (some 81) rfl rfl Tryz.func28 (by kernel_rfl) rfl #[.agg #[.int .i64 ((rd_T63 l0_5 x4_1).f0), .string ((rd_T63 l0_5 x4_1).f1), .int .i64 ((rd_T63 l0_5 x4_1).f2), .int .i64 ((rd_T63 l0_5 x4_1).f3), .int .i64 ((rd_T63 l0_5 x4_1).f4), .slice A272_5 ((rd_T63 l0_5 x4_1).f5).length c272_5, .int .i64 ((rd_T63 l0_5 x4_1).f6)]] rfl (by (try simp only [List.map_toArray, List.map_cons, List.map_nil]); first | done | rfl | (simp only [List.length_drop, List.length_take]; rfl)) ?_; (with_reducible refine (job_Check.calls kj21 ((rd_T63 l0_5 x4_1).f0) ((rd_T63 l0_5 x4_1).f1) ((rd_T63 l0_5 x4_1).f2) ((rd_T63 l0_5 x4_1).f3) ((rd_T63 l0_5 x4_1).f4) _ _ ((rd_T63 l0_5 x4_1).f5) ((rd_T63 l0_5 x4_1).f6) t273 _ ?side1 ?side2 A45.out).mono ?_); (case side1 => repeat (first | exact (Kd.C_below HR272_5.out HB.out) | (with_reducible refine Kd.C_alloc ?_ _) | (with_reducible refine Kd.C_drewN ?_ _) | (with_reducible refine Kd.C_drew ?_))); (case side2 => exact HC272_5.out); rintro e w53 ⟨rfl, hb⟩; refine ⟨_, rfl, ?_⟩; have n0_ := Aside0.mk (Kd.R_below (by (with_reducible repeat (first | apply Kd.R_alloc | apply Kd.R_drewN | apply Kd.R_drew)); exact HO_3.out) hb); have n1_ := Aside0.mk (blk_below (blk_up BK251.out) hb); have n2_ := Aside0.mk (below_step (by repeat (first | (with_reducible first | exact HB.out | apply below_alloc | apply pw_below_drewN | apply below_drew1 | refine below_setA ?_ ‹_›) | exact HB.out)) hb); clear HO_3; clear BK251; clear HB; have HO_3 := n0_; have BK251 := n1_; have HB := n2_; clear n0_ n1_ n2_; (try clear hb); (try clear hb2); (try clear hk); (try clear hi)) | ((with_reducible refine gate_callee (f := 27) rfl ?_); refine goesL_ (some 82) rfl rfl Tryz.func27 (by kernel_rfl) rfl #[.int .i64 t273] rfl (by (try simp only [List.map_toArray, List.map_cons, List.map_nil]); first | done | rfl | (simp only [List.length_drop, List.length_take]; rfl)) ?_; (with_reducible refine (thresherlaw14_num.calls t273 t274 _ A46.out).mono ?_); rintro e w' ⟨rfl, ⟨nd, rfl⟩⟩; refine ⟨_, rfl, ?_⟩) | (go_at_call 27; (with_reducible refine (thresherlaw14_num.calls t258 t275 _ A48.out).mono ?_); rintro e w' ⟨rfl, ⟨nd, rfl⟩⟩))
         go_meet
         case rel => exact ⟨_, (true), (by first | rfl | (simp; done) | (simp [*]; done)), H', ⟨by have := HK1.out; have := HJ12.out; have := HJ21.out; first | omega | exact Nat.le_refl _⟩, ⟨by (with_reducible repeat (first | apply Kd.R_alloc | apply Kd.R_drewN | apply Kd.R_drew)); exact HO_3.out⟩, ⟨blk_up BK251.out⟩, ⟨by repeat (first | (with_reducible first | exact HB.out | apply below_alloc | apply pw_below_drewN | apply below_drew1 | refine below_setA ?_ ‹_›) | exact HB.out)⟩⟩
        rw [if_pos c49] at H
        have c49b0 : (t275 == x7_21) = true := beq_iff_eq.mpr c49
        have c49b1 : (t275 != x7_21) = false := bne_eq_false_iff_eq.mpr c49
        clear c49
        have H' := Aside0.mk H
        clear H
        obtain ⟨hcz50_0, hcz50_1, hcz50_2, hcz50_3, hcz50_4, hcz50_5, hcz50_6, hfz50_0, hfz50_1, hfz50_2, hfz50_3, hfz50_4, hfz50_5, hfz50_6⟩ := blkall_7 BK251.out
        have p272 : 0 ≤ (x4_1 : Int) := of_decide_eq_true (by first | (with_reducible assumption) | assumption)
        have q272 : x4_1 < (l0_5.length : Int) := of_decide_eq_true (by first | (with_reducible assumption) | assumption)
        obtain ⟨ad272, A272_5, c272_5, e272, hx272_0, hx272_1, hx272_2, hx272_3, hx272_4, hx272_5, hx272_6, hl272_5, hi272_5⟩ := at_T63 HR0_5.out x4_1 p272 q272
        obtain rfl : ad256 = ad272 := (by injection e272)
        replace hx272_0 := (HB.out.cell (World.block_lt_of_cell? w _ hx272_0)).trans hx272_0
        replace hx272_1 := (HB.out.cell (World.block_lt_of_cell? w _ hx272_1)).trans hx272_1
        replace hx272_2 := (HB.out.cell (World.block_lt_of_cell? w _ hx272_2)).trans hx272_2
        replace hx272_3 := (HB.out.cell (World.block_lt_of_cell? w _ hx272_3)).trans hx272_3
        replace hx272_4 := (HB.out.cell (World.block_lt_of_cell? w _ hx272_4)).trans hx272_4
        replace hx272_5 := (HB.out.cell (World.block_lt_of_cell? w _ hx272_5)).trans hx272_5
        replace hx272_6 := (HB.out.cell (World.block_lt_of_cell? w _ hx272_6)).trans hx272_6
        have HR272_5 := Aside0.mk hi272_5; have HC272_5 := Aside0.mk hl272_5; clear hi272_5 hl272_5
        replace p272 := eq_true p272
        replace q272 := eq_true q272
        go_wp2_with (first | ((with_reducible refine gate_callee (f := 28) rfl ?_); refine goesL_ (some 81) rfl rfl Tryz.func28 (by kernel_rfl) rfl #[.agg #[.int .i64 ((rd_T63 l0_5 x4_1).f0), .string ((rd_T63 l0_5 x4_1).f1), .int .i64 ((rd_T63 l0_5 x4_1).f2), .int .i64 ((rd_T63 l0_5 x4_1).f3), .int .i64 ((rd_T63 l0_5 x4_1).f4), .slice A272_5 ((rd_T63 l0_5 x4_1).f5).length c272_5, .int .i64 ((rd_T63 l0_5 x4_1).f6)]] rfl (by (try simp only [List.map_toArray, List.map_cons, List.map_nil]); first | done | rfl | (simp only [List.length_drop, List.length_take]; rfl)) ?_; (with_reducible refine (job_Check.calls kj21 ((rd_T63 l0_5 x4_1).f0) ((rd_T63 l0_5 x4_1).f1) ((rd_T63 l0_5 x4_1).f2) ((rd_T63 l0_5 x4_1).f3) ((rd_T63 l0_5 x4_1).f4) _ _ ((rd_T63 l0_5 x4_1).f5) ((rd_T63 l0_5 x4_1).f6) t273 _ ?side1 ?side2 A45.out).mono ?_); (case side1 => repeat (first | exact (Kd.C_below HR272_5.out HB.out) | (with_reducible refine Kd.C_alloc ?_ _) | (with_reducible refine Kd.C_drewN ?_ _) | (with_reducible refine Kd.C_drew ?_))); (case side2 => exact HC272_5.out); rintro e w51 ⟨rfl, hb⟩; refine ⟨_, rfl, ?_⟩; have n0_ := Aside0.mk (Kd.R_below (by (with_reducible repeat (first | apply Kd.R_alloc | apply Kd.R_drewN | apply Kd.R_drew)); exact HO_3.out) hb); have n1_ := Aside0.mk (blk_below (blk_up BK251.out) hb); have n2_ := Aside0.mk (below_step (by repeat (first | (with_reducible first | exact HB.out | apply below_alloc | apply pw_below_drewN | apply below_drew1 | refine below_setA ?_ ‹_›) | exact HB.out)) hb); clear HO_3; clear BK251; clear HB; have HO_3 := n0_; have BK251 := n1_; have HB := n2_; clear n0_ n1_ n2_; (try clear hb); (try clear hb2); (try clear hk); (try clear hi)) | ((with_reducible refine gate_callee (f := 27) rfl ?_); refine goesL_ (some 82) rfl rfl Tryz.func27 (by kernel_rfl) rfl #[.int .i64 t273] rfl (by (try simp only [List.map_toArray, List.map_cons, List.map_nil]); first | done | rfl | (simp only [List.length_drop, List.length_take]; rfl)) ?_; (with_reducible refine (thresherlaw14_num.calls t273 t274 _ A46.out).mono ?_); rintro e w' ⟨rfl, ⟨nd, rfl⟩⟩; refine ⟨_, rfl, ?_⟩) | (go_at_call 27; (with_reducible refine (thresherlaw14_num.calls t258 t275 _ A48.out).mono ?_); rintro e w' ⟨rfl, ⟨nd, rfl⟩⟩))
        go_meet
        case rel => exact ⟨_, ((t257.toList != x8_21.toList)), (by first | rfl | (simp; done) | (simp [*]; done)), H', ⟨by have := HK1.out; have := HJ12.out; have := HJ21.out; first | omega | exact Nat.le_refl _⟩, ⟨by (with_reducible repeat (first | apply Kd.R_alloc | apply Kd.R_drewN | apply Kd.R_drew)); exact HO_3.out⟩, ⟨blk_up BK251.out⟩, ⟨by repeat (first | (with_reducible first | exact HB.out | apply below_alloc | apply pw_below_drewN | apply below_drew1 | refine below_setA ?_ ‹_›) | exact HB.out)⟩⟩
       case rest =>
        clear HC42
        obtain ⟨kq, x95_41, rfl, HA, HJ41, HO_3, BK251, HB⟩ := hcut
        cases kq with
        | zero => exact absurd HA.out (by simp [thresherlaw14_JobBytes.j4])
        | succ kj41 =>
         have H := HA.out; clear HA
         simp only [thresherlaw14_JobBytes.j4] at H
         by_cases c56 : x95_41 = true
         ·
          subst c56
          have H1 : (some false) = some r := by rw [if_pos rfl] at H; exact H
          clear H; have H := H1; clear H1
          obtain rfl := Option.some.inj H
          go_wp2
          go_ret
          exact ⟨by first | rfl | (simp [errW_none, errW_some] <;> rfl) | (simp [*, errW_none, errW_some] <;> rfl), by repeat (first | (with_reducible first | exact HB.out | apply below_alloc | apply pw_below_drewN | apply below_drew1 | refine below_setA ?_ ‹_›) | exact HB.out)⟩
         replace c56 := Bool.eq_false_iff.mpr c56
         subst c56
         have H1 : ((job_Take.f kj41 t257).bind fun bt276 => (if x7_21 = 0 then ((thresherlaw14_num.f bt276.2.2.2.2.2.2.2).bind fun t287 => (if t287 = 0 then (if 0 ≤ x4_1 then (if x4_1 < (l0_5.length : Int) then ((thresherref0_EqJob.f kj41 bt276.1 bt276.2.1 bt276.2.2.1 bt276.2.2.2.1 bt276.2.2.2.2.1 bt276.2.2.2.2.2.1 bt276.2.2.2.2.2.2.1 ((rd_T63 l0_5 x4_1).f0) ((rd_T63 l0_5 x4_1).f1) ((rd_T63 l0_5 x4_1).f2) ((rd_T63 l0_5 x4_1).f3) ((rd_T63 l0_5 x4_1).f4) ((rd_T63 l0_5 x4_1).f5) ((rd_T63 l0_5 x4_1).f6)).bind fun t289 => (if t289 = true then (thresherlaw14_JobBytes.l0 kj41 x3_21 (wrap64 (x4_1 + 1)) a0_0 l0_1 a0_2 a0_3 l0_4 l0_5 a0_6) else (some false))) else (none)) else (none)) else (some false))) else (thresherlaw14_JobBytes.l0 kj41 x3_21 (wrap64 (x4_1 + 1)) a0_0 l0_1 a0_2 a0_3 l0_4 l0_5 a0_6))) = some r := by rw [if_neg (show ¬ (false = true) by decide)] at H; exact H
         clear H; have H := H1; clear H1
         replace H := Option.bind_eq_some_iff.mp H
         obtain ⟨⟨t276, t277, t278, t279, t280, t281, t284, t285⟩, A570, H⟩ := H
         replace H : (if x7_21 = 0 then ((thresherlaw14_num.f t285).bind fun t287 => (if t287 = 0 then (if 0 ≤ x4_1 then (if x4_1 < (l0_5.length : Int) then ((thresherref0_EqJob.f kj41 t276 t277 t278 t279 t280 t281 t284 ((rd_T63 l0_5 x4_1).f0) ((rd_T63 l0_5 x4_1).f1) ((rd_T63 l0_5 x4_1).f2) ((rd_T63 l0_5 x4_1).f3) ((rd_T63 l0_5 x4_1).f4) ((rd_T63 l0_5 x4_1).f5) ((rd_T63 l0_5 x4_1).f6)).bind fun t289 => (if t289 = true then (thresherlaw14_JobBytes.l0 kj41 x3_21 (wrap64 (x4_1 + 1)) a0_0 l0_1 a0_2 a0_3 l0_4 l0_5 a0_6) else (some false))) else (none)) else (none)) else (some false))) else (thresherlaw14_JobBytes.l0 kj41 x3_21 (wrap64 (x4_1 + 1)) a0_0 l0_1 a0_2 a0_3 l0_4 l0_5 a0_6)) = some r := H
         have A57 := Aside0.mk A570; clear A570
         by_cases c58 : x7_21 = 0
         rotate_left
         ·
          rw [if_neg c58] at H
          have c58b0 : (x7_21 == 0) = false := beq_eq_false_iff_ne.mpr c58
          have c58b1 : (x7_21 != 0) = true := bne_iff_ne.mpr c58
          have H' := Aside0.mk H
          clear H
          try go_wp2_with (first | ((with_reducible refine gate_callee (f := 29) rfl ?_); refine goesL_ (some 98) rfl rfl Tryz.func29 (by kernel_rfl) rfl #[.string t257] rfl (by (try simp only [List.map_toArray, List.map_cons, List.map_nil]); first | done | rfl | (simp only [List.length_drop, List.length_take]; rfl)) ?_; (with_reducible refine (job_Take.calls kj41 t257 t276 t277 t278 t279 t280 t281 t284 t285 _ A57.out).mono ?_); rintro e w88 ⟨v282, rfl, ho0, hb⟩; refine ⟨_, rfl, ?_⟩; have n0_ := Aside0.mk (Kd.R_below (by (with_reducible repeat (first | apply Kd.R_alloc | apply Kd.R_drewN | apply Kd.R_drew)); exact HO_3.out) hb); have n1_ := Aside0.mk (Kd.R_lower ho0 (below_size (by repeat (first | (with_reducible first | exact HB.out | apply below_alloc | apply pw_below_drewN | apply below_drew1 | refine below_setA ?_ ‹_›) | exact HB.out)))); have n2_ := Aside0.mk (blk_below (blk_up BK251.out) hb); have n3_ := Aside0.mk (below_step (by repeat (first | (with_reducible first | exact HB.out | apply below_alloc | apply pw_below_drewN | apply below_drew1 | refine below_setA ?_ ‹_›) | exact HB.out)) hb); clear HO_3; clear BK251; clear HB; have HO_3 := n0_; have HO283 := n1_; have BK251 := n2_; have HB := n3_; clear n0_ n1_ n2_ n3_; (try clear hb); (try clear hb2); (try clear hk); (try clear hi); (try clear ho0)) | ((with_reducible refine gate_dst (N := 10) rfl ?_); refine box_event ?hg (N := 10) ?hd (cs := #[.int .i64 0, .string (⟨#[]⟩ : ByteArray), .int .i64 0, .int .i64 0, .int .i64 0, .slice none 0 0, .int .i64 0]) (t := 63) ?hr ?_; (case hd => rfl); (case hg => rfl); (case hr => first | (go_simp; done) | (go_simp; rfl)); intro gb286 hg w89 hbox hb; have n0_ := Aside0.mk (Kd.R_below (by (with_reducible repeat (first | apply Kd.R_alloc | apply Kd.R_drewN | apply Kd.R_drew)); exact HO_3.out) hb); have n1_ := Aside0.mk (Kd.R_below (by (with_reducible repeat (first | apply Kd.R_alloc | apply Kd.R_drewN | apply Kd.R_drew)); exact HO283.out) hb); have n2_ := Aside0.mk (blk_below (blk_up BK251.out) hb); have n3_ := Aside0.mk (below_step (by repeat (first | (with_reducible first | exact HB.out | apply below_alloc | apply pw_below_drewN | apply below_drew1 | refine below_setA ?_ ‹_›) | exact HB.out)) hb); have n4_ := Aside0.mk (hbox); have n5_ := Aside0.mk ((by rw [hg]; exact (below_size (by repeat (first | (with_reducible first | exact HB.out | apply below_alloc | apply pw_below_drewN | apply below_drew1 | refine below_setA ?_ ‹_›) | exact HB.out))) : w.heap.size ≤ gb286)); have n6_ := n5_; have n7_ := Aside0.mk ((by rw [hg]; exact Nat.ne_of_lt (blk_lt (blk_up BK251.out)) : gb251 ≠ gb286)); have n8_ := Aside0.mk ((by rw [hg]; exact Nat.ne_of_gt (blk_lt (blk_up BK251.out)) : gb286 ≠ gb251)); clear HO_3; clear HO283; clear BK251; clear HB; have HO_3 := n0_; have HO283 := n1_; have BK251 := n2_; have HB := n3_; have BK286 := n4_; have GW286 := n5_; have GE286 := n6_; have NB251_286 := n7_; have NB286_251 := n8_; clear n0_ n1_ n2_ n3_ n4_ n5_ n6_ n7_ n8_; clear hb hbox hg; have hnb90 := NB286_251.out; have hnc90 := NB251_286.out; obtain ⟨hcz91_0, hcz91_1, hcz91_2, hcz91_3, hcz91_4, hcz91_5, hcz91_6, hfz91_0, hfz91_1, hfz91_2, hfz91_3, hfz91_4, hfz91_5, hfz91_6⟩ := blkall_7 BK286.out; obtain ⟨Ao92, co92, eo92⟩ := Kd.R_slice HO283.out; subst eo92))
          have n0_ : Aside0 (Kd.R Kd.string 9 (((((((w89.setCell ⟨gb286, 0, none⟩ (.int .i64 t276)).setCell ⟨gb286, 1, none⟩ (.string t277)).setCell ⟨gb286, 2, none⟩ (.int .i64 t278)).setCell ⟨gb286, 3, none⟩ (.int .i64 t279)).setCell ⟨gb286, 4, none⟩ (.int .i64 t280)).setCell ⟨gb286, 5, none⟩ (.slice Ao92 t281.length co92)).setCell ⟨gb286, 6, none⟩ (.int .i64 t284)) w.heap.size (fun _ => True) u3 x3_21) := ⟨by (with_reducible repeat (first | apply Kd.R_alloc | apply Kd.R_drewN | apply Kd.R_drew)); exact Kd.R_mono (Kd.R_far (p := ⟨gb286, 6, none⟩) (Kd.R_far (p := ⟨gb286, 5, none⟩) (Kd.R_far (p := ⟨gb286, 4, none⟩) (Kd.R_far (p := ⟨gb286, 3, none⟩) (Kd.R_far (p := ⟨gb286, 2, none⟩) (Kd.R_far (p := ⟨gb286, 1, none⟩) (Kd.R_far (p := ⟨gb286, 0, none⟩) (Kd.R_types HO_3.out BK286.out (by decide)) (fun _ hk => hk.2) (.int .i64 t276)) (fun _ hk => hk.2) (.string t277)) (fun _ hk => hk.2) (.int .i64 t278)) (fun _ hk => hk.2) (.int .i64 t279)) (fun _ hk => hk.2) (.int .i64 t280)) (fun _ hk => hk.2) (.slice Ao92 t281.length co92)) (fun _ hk => hk.2) (.int .i64 t284)) (fun _ hk => trivial)⟩
          have n1_ : Aside0 (Kd.R (Kd.int .i64) 3 (((((((w89.setCell ⟨gb286, 0, none⟩ (.int .i64 t276)).setCell ⟨gb286, 1, none⟩ (.string t277)).setCell ⟨gb286, 2, none⟩ (.int .i64 t278)).setCell ⟨gb286, 3, none⟩ (.int .i64 t279)).setCell ⟨gb286, 4, none⟩ (.int .i64 t280)).setCell ⟨gb286, 5, none⟩ (.slice Ao92 t281.length co92)).setCell ⟨gb286, 6, none⟩ (.int .i64 t284)) w.heap.size (fun _ => True) (.slice Ao92 t281.length co92) t281) := ⟨by (with_reducible repeat (first | apply Kd.R_alloc | apply Kd.R_drewN | apply Kd.R_drew)); exact Kd.R_mono (Kd.R_far (p := ⟨gb286, 6, none⟩) (Kd.R_far (p := ⟨gb286, 5, none⟩) (Kd.R_far (p := ⟨gb286, 4, none⟩) (Kd.R_far (p := ⟨gb286, 3, none⟩) (Kd.R_far (p := ⟨gb286, 2, none⟩) (Kd.R_far (p := ⟨gb286, 1, none⟩) (Kd.R_far (p := ⟨gb286, 0, none⟩) (Kd.R_types HO283.out BK286.out (by decide)) (fun _ hk => hk.2) (.int .i64 t276)) (fun _ hk => hk.2) (.string t277)) (fun _ hk => hk.2) (.int .i64 t278)) (fun _ hk => hk.2) (.int .i64 t279)) (fun _ hk => hk.2) (.int .i64 t280)) (fun _ hk => hk.2) (.slice Ao92 t281.length co92)) (fun _ hk => hk.2) (.int .i64 t284)) (fun _ hk => trivial)⟩
          have n2_ : Aside0 ((((((((w89.setCell ⟨gb286, 0, none⟩ (.int .i64 t276)).setCell ⟨gb286, 1, none⟩ (.string t277)).setCell ⟨gb286, 2, none⟩ (.int .i64 t278)).setCell ⟨gb286, 3, none⟩ (.int .i64 t279)).setCell ⟨gb286, 4, none⟩ (.int .i64 t280)).setCell ⟨gb286, 5, none⟩ (.slice Ao92 t281.length co92)).setCell ⟨gb286, 6, none⟩ (.int .i64 t284)).heap[gb251]? = some (.cells #[.int .i64 a0_0, .slice A0_1 l0_1.length c0_1, .int .i64 a0_2, .int .i64 a0_3, .slice A0_4 l0_4.length c0_4, .slice (some ad256) l0_5.length c0_5, .string a0_6] 57 (0, 0))) := ⟨by (with_reducible repeat (first | refine blk_drewN ?_ _ | refine blk_drew ?_ | refine blk_alloc ?_ _ | refine blk_far ?_ NB251_286.out _)); exact BK251.out⟩
          have n3_ : Aside0 ((((((((w89.setCell ⟨gb286, 0, none⟩ (.int .i64 t276)).setCell ⟨gb286, 1, none⟩ (.string t277)).setCell ⟨gb286, 2, none⟩ (.int .i64 t278)).setCell ⟨gb286, 3, none⟩ (.int .i64 t279)).setCell ⟨gb286, 4, none⟩ (.int .i64 t280)).setCell ⟨gb286, 5, none⟩ (.slice Ao92 t281.length co92)).setCell ⟨gb286, 6, none⟩ (.int .i64 t284)).heap[gb286]? = some (.cells #[.int .i64 t276, .string t277, .int .i64 t278, .int .i64 t279, .int .i64 t280, .slice Ao92 t281.length co92, .int .i64 t284] 63 (0, 0))) := ⟨by refine blk_up ?_; refine blk_put (cs := #[.int .i64 t276, .string t277, .int .i64 t278, .int .i64 t279, .int .i64 t280, .slice Ao92 t281.length co92, .int .i64 0]) ?_ 6 _ rfl; refine blk_up ?_; refine blk_put (cs := #[.int .i64 t276, .string t277, .int .i64 t278, .int .i64 t279, .int .i64 t280, .slice none 0 0, .int .i64 0]) ?_ 5 _ rfl; refine blk_up ?_; refine blk_put (cs := #[.int .i64 t276, .string t277, .int .i64 t278, .int .i64 t279, .int .i64 0, .slice none 0 0, .int .i64 0]) ?_ 4 _ rfl; refine blk_up ?_; refine blk_put (cs := #[.int .i64 t276, .string t277, .int .i64 t278, .int .i64 0, .int .i64 0, .slice none 0 0, .int .i64 0]) ?_ 3 _ rfl; refine blk_up ?_; refine blk_put (cs := #[.int .i64 t276, .string t277, .int .i64 0, .int .i64 0, .int .i64 0, .slice none 0 0, .int .i64 0]) ?_ 2 _ rfl; refine blk_up ?_; refine blk_put (cs := #[.int .i64 t276, .string (⟨#[]⟩ : ByteArray), .int .i64 0, .int .i64 0, .int .i64 0, .slice none 0 0, .int .i64 0]) ?_ 1 _ rfl; refine blk_up ?_; refine blk_put (cs := #[.int .i64 0, .string (⟨#[]⟩ : ByteArray), .int .i64 0, .int .i64 0, .int .i64 0, .slice none 0 0, .int .i64 0]) ?_ 0 _ rfl; refine blk_up ?_; exact BK286.out⟩
          have n4_ : Aside0 (Below w.heap.size w (((((((w89.setCell ⟨gb286, 0, none⟩ (.int .i64 t276)).setCell ⟨gb286, 1, none⟩ (.string t277)).setCell ⟨gb286, 2, none⟩ (.int .i64 t278)).setCell ⟨gb286, 3, none⟩ (.int .i64 t279)).setCell ⟨gb286, 4, none⟩ (.int .i64 t280)).setCell ⟨gb286, 5, none⟩ (.slice Ao92 t281.length co92)).setCell ⟨gb286, 6, none⟩ (.int .i64 t284))) := ⟨by repeat (first | (with_reducible first | exact HB.out | apply below_alloc | apply pw_below_drewN | apply below_drew1 | refine below_setA ?_ ‹_›) | exact HB.out)⟩
          (try clear HO_3)
          (try clear HO283)
          (try clear BK251)
          (try clear BK286)
          (try clear HB)
          generalize (((((((w89.setCell ⟨gb286, 0, none⟩ (.int .i64 t276)).setCell ⟨gb286, 1, none⟩ (.string t277)).setCell ⟨gb286, 2, none⟩ (.int .i64 t278)).setCell ⟨gb286, 3, none⟩ (.int .i64 t279)).setCell ⟨gb286, 4, none⟩ (.int .i64 t280)).setCell ⟨gb286, 5, none⟩ (.slice Ao92 t281.length co92)).setCell ⟨gb286, 6, none⟩ (.int .i64 t284)) = w93 at n0_ n1_ n2_ n3_ n4_ ⊢
          have HO_3 := n0_; have HO283 := n1_; have BK251 := n2_; have BK286 := n3_; have HB := n4_; clear n0_ n1_ n2_ n3_ n4_
          have n0_ := Aside0.mk (Kd.R_drew HO_3.out)
          have n1_ := Aside0.mk (Kd.R_drew HO283.out)
          have n2_ := Aside0.mk (blk_drew BK251.out)
          have n3_ := Aside0.mk (blk_drew BK286.out)
          have n4_ := Aside0.mk (below_drew1 HB.out)
          clear HO_3; clear HO283; clear BK251; clear BK286; clear HB; have HO_3 := n0_; have HO283 := n1_; have BK251 := n2_; have BK286 := n3_; have HB := n4_; clear n0_ n1_ n2_ n3_ n4_
          refine start_ (n := 17) (S := fun w' => True) (ds := []) #[false, false, false, false, false, false, false, false, false, false, false, false, false, false, false, false, false] (by kernel_rfl) rfl rfl trivial (fun hHeld => ?_); refine with_tabW thresherlaw14_JobBytes.tab19 thresherlaw14_JobBytes.bits19 (fun HT_ HW_ => ?_)
          generalize w93.drew = w94 at HO_3 HO283 BK251 BK286 HB hHeld ⊢
          refine pure_ (i := 0) (N := some 101) (v := ?_) (a' := ?_) #[true, false, false, false, false, false, false, false, false, false, false, false, false, false, false, false, false] rfl rfl (any_of HT_.out (by kernel_rfl)) (fun _ _ _ h => h) (Or.inl ⟨by rfl, ?_⟩) ?_ ?_
          rotate_left
          ·
           intro w'
           go_simp
           with_reducible rfl
          rotate_left
          ·
           simp only [Act.put, List.setIfInBounds_toArray, List.set_cons_zero, List.set_cons_succ, i64_w, i32_w]
           rfl
          refine pure_ (i := 1) (N := some 102) (v := ?_) (a' := ?_) #[true, true, false, false, false, false, false, false, false, false, false, false, false, false, false, false, false] rfl rfl (any_of HT_.out (by kernel_rfl)) (fun _ _ _ h => h) (Or.inl ⟨by rfl, ?_⟩) ?_ ?_
          rotate_left
          ·
           intro w'
           go_simp
           with_reducible rfl
          rotate_left
          ·
           simp only [Act.put, List.setIfInBounds_toArray, List.set_cons_zero, List.set_cons_succ, i64_w, i32_w]
           rfl
          refine pure_ (i := 2) (N := some 103) (v := ?_) (a' := ?_) #[true, true, true, false, false, false, false, false, false, false, false, false, false, false, false, false, false] rfl rfl (any_of HT_.out (by kernel_rfl)) (fun _ _ _ h => h) (Or.inl ⟨by rfl, ?_⟩) ?_ ?_
          rotate_left
          ·
           intro w'
           go_simp
           with_reducible rfl
          rotate_left
          ·
           simp only [Act.put, List.setIfInBounds_toArray, List.set_cons_zero, List.set_cons_succ, i64_w, i32_w]
           rfl
          refine pure_ (i := 3) (N := some 104) (v := undef) (a' := ?_) #[true, true, true, true, false, false, false, false, false, false, false, false, false, false, false, false, false] rfl rfl (any_of HT_.out (by kernel_rfl)) (fun _ _ _ h => h) (Or.inr ⟨by rfl, rfl⟩) ?_ ?_
          rotate_left
          ·
           simp only [Act.put, List.setIfInBounds_toArray, List.set_cons_zero, List.set_cons_succ, i64_w, i32_w]
           rfl
          refine pure_ (i := 4) (N := some 105) (v := undef) (a' := ?_) #[true, true, true, true, true, false, false, false, false, false, false, false, false, false, false, false, false] rfl rfl (any_of HT_.out (by kernel_rfl)) (fun _ _ _ h => h) (Or.inr ⟨by rfl, rfl⟩) ?_ ?_
          rotate_left
          ·
           simp only [Act.put, List.setIfInBounds_toArray, List.set_cons_zero, List.set_cons_succ, i64_w, i32_w]
           rfl
          refine pure_ (i := 5) (N := some 106) (v := undef) (a' := ?_) #[true, true, true, true, true, true, false, false, false, false, false, false, false, false, false, false, false] rfl rfl (any_of HT_.out (by kernel_rfl)) (fun _ _ _ h => h) (Or.inr ⟨by rfl, rfl⟩) ?_ ?_
          rotate_left
          ·
           simp only [Act.put, List.setIfInBounds_toArray, List.set_cons_zero, List.set_cons_succ, i64_w, i32_w]
           rfl
          refine pure_ (i := 6) (N := some 107) (v := undef) (a' := ?_) #[true, true, true, true, true, true, true, false, false, false, false, false, false, false, false, false, false] rfl rfl (any_of HT_.out (by kernel_rfl)) (fun _ _ _ h => h) (Or.inr ⟨by rfl, rfl⟩) ?_ ?_
          rotate_left
          ·
           simp only [Act.put, List.setIfInBounds_toArray, List.set_cons_zero, List.set_cons_succ, i64_w, i32_w]
           rfl
          refine pure_ (i := 7) (N := some 108) (v := undef) (a' := ?_) #[true, true, true, true, true, true, true, true, false, false, false, false, false, false, false, false, false] rfl rfl (any_of HT_.out (by kernel_rfl)) (fun _ _ _ h => h) (Or.inr ⟨by rfl, rfl⟩) ?_ ?_
          rotate_left
          ·
           simp only [Act.put, List.setIfInBounds_toArray, List.set_cons_zero, List.set_cons_succ, i64_w, i32_w]
           rfl
          refine pure_ (i := 8) (N := some 109) (v := undef) (a' := ?_) #[true, true, true, true, true, true, true, true, true, false, false, false, false, false, false, false, false] rfl rfl (any_of HT_.out (by kernel_rfl)) (fun _ _ _ h => h) (Or.inr ⟨by rfl, rfl⟩) ?_ ?_
          rotate_left
          ·
           simp only [Act.put, List.setIfInBounds_toArray, List.set_cons_zero, List.set_cons_succ, i64_w, i32_w]
           rfl
          refine pure_ (i := 9) (N := some 110) (v := undef) (a' := ?_) #[true, true, true, true, true, true, true, true, true, true, false, false, false, false, false, false, false] rfl rfl (any_of HT_.out (by kernel_rfl)) (fun _ _ _ h => h) (Or.inr ⟨by rfl, rfl⟩) ?_ ?_
          rotate_left
          ·
           simp only [Act.put, List.setIfInBounds_toArray, List.set_cons_zero, List.set_cons_succ, i64_w, i32_w]
           rfl
          refine pure_ (i := 10) (N := some 111) (v := undef) (a' := ?_) #[true, true, true, true, true, true, true, true, true, true, true, false, false, false, false, false, false] rfl rfl (any_of HT_.out (by kernel_rfl)) (fun _ _ _ h => h) (Or.inr ⟨by rfl, rfl⟩) ?_ ?_
          rotate_left
          ·
           simp only [Act.put, List.setIfInBounds_toArray, List.set_cons_zero, List.set_cons_succ, i64_w, i32_w]
           rfl
          refine pure_ (i := 11) (N := some 112) (v := undef) (a' := ?_) #[true, true, true, true, true, true, true, true, true, true, true, true, false, false, false, false, false] rfl rfl (any_of HT_.out (by kernel_rfl)) (fun _ _ _ h => h) (Or.inr ⟨by rfl, rfl⟩) ?_ ?_
          rotate_left
          ·
           simp only [Act.put, List.setIfInBounds_toArray, List.set_cons_zero, List.set_cons_succ, i64_w, i32_w]
           rfl
          refine pure_ (i := 12) (N := some 113) (v := undef) (a' := ?_) #[true, true, true, true, true, true, true, true, true, true, true, true, true, false, false, false, false] rfl rfl (any_of HT_.out (by kernel_rfl)) (fun _ _ _ h => h) (Or.inr ⟨by rfl, rfl⟩) ?_ ?_
          rotate_left
          ·
           simp only [Act.put, List.setIfInBounds_toArray, List.set_cons_zero, List.set_cons_succ, i64_w, i32_w]
           rfl
          refine pure_ (i := 13) (N := some 114) (v := undef) (a' := ?_) #[true, true, true, true, true, true, true, true, true, true, true, true, true, true, false, false, false] rfl rfl (any_of HT_.out (by kernel_rfl)) (fun _ _ _ h => h) (Or.inr ⟨by rfl, rfl⟩) ?_ ?_
          rotate_left
          ·
           simp only [Act.put, List.setIfInBounds_toArray, List.set_cons_zero, List.set_cons_succ, i64_w, i32_w]
           rfl
          refine pure_ (i := 14) (N := some 115) (v := undef) (a' := ?_) #[true, true, true, true, true, true, true, true, true, true, true, true, true, true, true, false, false] rfl rfl (any_of HT_.out (by kernel_rfl)) (fun _ _ _ h => h) (Or.inr ⟨by rfl, rfl⟩) ?_ ?_
          rotate_left
          ·
           simp only [Act.put, List.setIfInBounds_toArray, List.set_cons_zero, List.set_cons_succ, i64_w, i32_w]
           rfl
          refine pure_ (i := 15) (N := some 116) (v := undef) (a' := ?_) #[true, true, true, true, true, true, true, true, true, true, true, true, true, true, true, true, false] rfl rfl (any_of HT_.out (by kernel_rfl)) (fun _ _ _ h => h) (Or.inr ⟨by rfl, rfl⟩) ?_ ?_
          rotate_left
          ·
           simp only [Act.put, List.setIfInBounds_toArray, List.set_cons_zero, List.set_cons_succ, i64_w, i32_w]
           rfl
          refine pure_ (i := 16) (N := some 117) (v := ?_) (a' := ?_) #[true, true, true, true, true, true, true, true, true, true, true, true, true, true, true, true, true] rfl rfl (any_of HT_.out (by kernel_rfl)) (fun _ _ _ h => h) (Or.inl ⟨by rfl, ?_⟩) ?_ ?_
          rotate_left
          ·
           intro w'
           go_simp
           with_reducible rfl
          rotate_left
          ·
           simp only [Act.put, List.setIfInBounds_toArray, List.set_cons_zero, List.set_cons_succ, i64_w, i32_w]
           rfl
          refine done_ (done_of HT_.out (by kernel_rfl)) ?_
          try go_wp2
          go_roundg kj41
          case measure => have := HK1.out; have := HJ12.out; have := HJ21.out; have := HJ41.out; omega
          case rel => exact ⟨(x3_21), (wrap64 (x4_1 + 1)), (by first | rfl | (simp; done) | (simp [*]; done)), H', ⟨by have := HK1.out; have := HJ12.out; have := HJ21.out; have := HJ41.out; omega⟩, ⟨by (with_reducible repeat (first | apply Kd.R_alloc | apply Kd.R_drewN | apply Kd.R_drew)); exact HO_3.out⟩, ⟨blk_up BK251.out⟩, ⟨by repeat (first | (with_reducible first | exact HB.out | apply below_alloc | apply pw_below_drewN | apply below_drew1 | refine below_setA ?_ ‹_›) | exact HB.out)⟩⟩
         rw [if_pos c58] at H
         have c58b0 : (x7_21 == 0) = true := beq_iff_eq.mpr c58
         have c58b1 : (x7_21 != 0) = false := bne_eq_false_iff_eq.mpr c58
         clear c58
         replace H := Option.bind_eq_some_iff.mp H
         obtain ⟨t287, A590, H⟩ := H
         replace H : (if t287 = 0 then (if 0 ≤ x4_1 then (if x4_1 < (l0_5.length : Int) then ((thresherref0_EqJob.f kj41 t276 t277 t278 t279 t280 t281 t284 ((rd_T63 l0_5 x4_1).f0) ((rd_T63 l0_5 x4_1).f1) ((rd_T63 l0_5 x4_1).f2) ((rd_T63 l0_5 x4_1).f3) ((rd_T63 l0_5 x4_1).f4) ((rd_T63 l0_5 x4_1).f5) ((rd_T63 l0_5 x4_1).f6)).bind fun t289 => (if t289 = true then (thresherlaw14_JobBytes.l0 kj41 x3_21 (wrap64 (x4_1 + 1)) a0_0 l0_1 a0_2 a0_3 l0_4 l0_5 a0_6) else (some false))) else (none)) else (none)) else (some false)) = some r := H
         have A59 := Aside0.mk A590; clear A590
         by_cases c60 : t287 = 0
         rotate_left
         ·
          rw [if_neg c60] at H
          have c60b0 : (t287 == 0) = false := beq_eq_false_iff_ne.mpr c60
          have c60b1 : (t287 != 0) = true := bne_iff_ne.mpr c60
          obtain rfl := Option.some.inj H
          try go_wp2_with (first | ((with_reducible refine gate_callee (f := 29) rfl ?_); refine goesL_ (some 98) rfl rfl Tryz.func29 (by kernel_rfl) rfl #[.string t257] rfl (by (try simp only [List.map_toArray, List.map_cons, List.map_nil]); first | done | rfl | (simp only [List.length_drop, List.length_take]; rfl)) ?_; (with_reducible refine (job_Take.calls kj41 t257 t276 t277 t278 t279 t280 t281 t284 t285 _ A57.out).mono ?_); rintro e w81 ⟨v282, rfl, ho0, hb⟩; refine ⟨_, rfl, ?_⟩; have n0_ := Aside0.mk (Kd.R_below (by (with_reducible repeat (first | apply Kd.R_alloc | apply Kd.R_drewN | apply Kd.R_drew)); exact HO_3.out) hb); have n1_ := Aside0.mk (Kd.R_lower ho0 (below_size (by repeat (first | (with_reducible first | exact HB.out | apply below_alloc | apply pw_below_drewN | apply below_drew1 | refine below_setA ?_ ‹_›) | exact HB.out)))); have n2_ := Aside0.mk (blk_below (blk_up BK251.out) hb); have n3_ := Aside0.mk (below_step (by repeat (first | (with_reducible first | exact HB.out | apply below_alloc | apply pw_below_drewN | apply below_drew1 | refine below_setA ?_ ‹_›) | exact HB.out)) hb); clear HO_3; clear BK251; clear HB; have HO_3 := n0_; have HO283 := n1_; have BK251 := n2_; have HB := n3_; clear n0_ n1_ n2_ n3_; (try clear hb); (try clear hb2); (try clear hk); (try clear hi); (try clear ho0)) | ((with_reducible refine gate_dst (N := 10) rfl ?_); refine box_event ?hg (N := 10) ?hd (cs := #[.int .i64 0, .string (⟨#[]⟩ : ByteArray), .int .i64 0, .int .i64 0, .int .i64 0, .slice none 0 0, .int .i64 0]) (t := 63) ?hr ?_; (case hd => rfl); (case hg => rfl); (case hr => first | (go_simp; done) | (go_simp; rfl)); intro gb286 hg w82 hbox hb; have n0_ := Aside0.mk (Kd.R_below (by (with_reducible repeat (first | apply Kd.R_alloc | apply Kd.R_drewN | apply Kd.R_drew)); exact HO_3.out) hb); have n1_ := Aside0.mk (Kd.R_below (by (with_reducible repeat (first | apply Kd.R_alloc | apply Kd.R_drewN | apply Kd.R_drew)); exact HO283.out) hb); have n2_ := Aside0.mk (blk_below (blk_up BK251.out) hb); have n3_ := Aside0.mk (below_step (by repeat (first | (with_reducible first | exact HB.out | apply below_alloc | apply pw_below_drewN | apply below_drew1 | refine below_setA ?_ ‹_›) | exact HB.out)) hb); have n4_ := Aside0.mk (hbox); have n5_ := Aside0.mk ((by rw [hg]; exact (below_size (by repeat (first | (with_reducible first | exact HB.out | apply below_alloc | apply pw_below_drewN | apply below_drew1 | refine below_setA ?_ ‹_›) | exact HB.out))) : w.heap.size ≤ gb286)); have n6_ := n5_; have n7_ := Aside0.mk ((by rw [hg]; exact Nat.ne_of_lt (blk_lt (blk_up BK251.out)) : gb251 ≠ gb286)); have n8_ := Aside0.mk ((by rw [hg]; exact Nat.ne_of_gt (blk_lt (blk_up BK251.out)) : gb286 ≠ gb251)); clear HO_3; clear HO283; clear BK251; clear HB; have HO_3 := n0_; have HO283 := n1_; have BK251 := n2_; have HB := n3_; have BK286 := n4_; have GW286 := n5_; have GE286 := n6_; have NB251_286 := n7_; have NB286_251 := n8_; clear n0_ n1_ n2_ n3_ n4_ n5_ n6_ n7_ n8_; clear hb hbox hg; have hnb83 := NB286_251.out; have hnc83 := NB251_286.out; obtain ⟨hcz84_0, hcz84_1, hcz84_2, hcz84_3, hcz84_4, hcz84_5, hcz84_6, hfz84_0, hfz84_1, hfz84_2, hfz84_3, hfz84_4, hfz84_5, hfz84_6⟩ := blkall_7 BK286.out; obtain ⟨Ao85, co85, eo85⟩ := Kd.R_slice HO283.out; subst eo85))
          have n0_ : Aside0 (Kd.R Kd.string 9 (((((((w82.setCell ⟨gb286, 0, none⟩ (.int .i64 t276)).setCell ⟨gb286, 1, none⟩ (.string t277)).setCell ⟨gb286, 2, none⟩ (.int .i64 t278)).setCell ⟨gb286, 3, none⟩ (.int .i64 t279)).setCell ⟨gb286, 4, none⟩ (.int .i64 t280)).setCell ⟨gb286, 5, none⟩ (.slice Ao85 t281.length co85)).setCell ⟨gb286, 6, none⟩ (.int .i64 t284)) w.heap.size (fun _ => True) u3 x3_21) := ⟨by (with_reducible repeat (first | apply Kd.R_alloc | apply Kd.R_drewN | apply Kd.R_drew)); exact Kd.R_mono (Kd.R_far (p := ⟨gb286, 6, none⟩) (Kd.R_far (p := ⟨gb286, 5, none⟩) (Kd.R_far (p := ⟨gb286, 4, none⟩) (Kd.R_far (p := ⟨gb286, 3, none⟩) (Kd.R_far (p := ⟨gb286, 2, none⟩) (Kd.R_far (p := ⟨gb286, 1, none⟩) (Kd.R_far (p := ⟨gb286, 0, none⟩) (Kd.R_types HO_3.out BK286.out (by decide)) (fun _ hk => hk.2) (.int .i64 t276)) (fun _ hk => hk.2) (.string t277)) (fun _ hk => hk.2) (.int .i64 t278)) (fun _ hk => hk.2) (.int .i64 t279)) (fun _ hk => hk.2) (.int .i64 t280)) (fun _ hk => hk.2) (.slice Ao85 t281.length co85)) (fun _ hk => hk.2) (.int .i64 t284)) (fun _ hk => trivial)⟩
          have n1_ : Aside0 (Kd.R (Kd.int .i64) 3 (((((((w82.setCell ⟨gb286, 0, none⟩ (.int .i64 t276)).setCell ⟨gb286, 1, none⟩ (.string t277)).setCell ⟨gb286, 2, none⟩ (.int .i64 t278)).setCell ⟨gb286, 3, none⟩ (.int .i64 t279)).setCell ⟨gb286, 4, none⟩ (.int .i64 t280)).setCell ⟨gb286, 5, none⟩ (.slice Ao85 t281.length co85)).setCell ⟨gb286, 6, none⟩ (.int .i64 t284)) w.heap.size (fun _ => True) (.slice Ao85 t281.length co85) t281) := ⟨by (with_reducible repeat (first | apply Kd.R_alloc | apply Kd.R_drewN | apply Kd.R_drew)); exact Kd.R_mono (Kd.R_far (p := ⟨gb286, 6, none⟩) (Kd.R_far (p := ⟨gb286, 5, none⟩) (Kd.R_far (p := ⟨gb286, 4, none⟩) (Kd.R_far (p := ⟨gb286, 3, none⟩) (Kd.R_far (p := ⟨gb286, 2, none⟩) (Kd.R_far (p := ⟨gb286, 1, none⟩) (Kd.R_far (p := ⟨gb286, 0, none⟩) (Kd.R_types HO283.out BK286.out (by decide)) (fun _ hk => hk.2) (.int .i64 t276)) (fun _ hk => hk.2) (.string t277)) (fun _ hk => hk.2) (.int .i64 t278)) (fun _ hk => hk.2) (.int .i64 t279)) (fun _ hk => hk.2) (.int .i64 t280)) (fun _ hk => hk.2) (.slice Ao85 t281.length co85)) (fun _ hk => hk.2) (.int .i64 t284)) (fun _ hk => trivial)⟩
          have n2_ : Aside0 ((((((((w82.setCell ⟨gb286, 0, none⟩ (.int .i64 t276)).setCell ⟨gb286, 1, none⟩ (.string t277)).setCell ⟨gb286, 2, none⟩ (.int .i64 t278)).setCell ⟨gb286, 3, none⟩ (.int .i64 t279)).setCell ⟨gb286, 4, none⟩ (.int .i64 t280)).setCell ⟨gb286, 5, none⟩ (.slice Ao85 t281.length co85)).setCell ⟨gb286, 6, none⟩ (.int .i64 t284)).heap[gb251]? = some (.cells #[.int .i64 a0_0, .slice A0_1 l0_1.length c0_1, .int .i64 a0_2, .int .i64 a0_3, .slice A0_4 l0_4.length c0_4, .slice (some ad256) l0_5.length c0_5, .string a0_6] 57 (0, 0))) := ⟨by (with_reducible repeat (first | refine blk_drewN ?_ _ | refine blk_drew ?_ | refine blk_alloc ?_ _ | refine blk_far ?_ NB251_286.out _)); exact BK251.out⟩
          have n3_ : Aside0 ((((((((w82.setCell ⟨gb286, 0, none⟩ (.int .i64 t276)).setCell ⟨gb286, 1, none⟩ (.string t277)).setCell ⟨gb286, 2, none⟩ (.int .i64 t278)).setCell ⟨gb286, 3, none⟩ (.int .i64 t279)).setCell ⟨gb286, 4, none⟩ (.int .i64 t280)).setCell ⟨gb286, 5, none⟩ (.slice Ao85 t281.length co85)).setCell ⟨gb286, 6, none⟩ (.int .i64 t284)).heap[gb286]? = some (.cells #[.int .i64 t276, .string t277, .int .i64 t278, .int .i64 t279, .int .i64 t280, .slice Ao85 t281.length co85, .int .i64 t284] 63 (0, 0))) := ⟨by refine blk_up ?_; refine blk_put (cs := #[.int .i64 t276, .string t277, .int .i64 t278, .int .i64 t279, .int .i64 t280, .slice Ao85 t281.length co85, .int .i64 0]) ?_ 6 _ rfl; refine blk_up ?_; refine blk_put (cs := #[.int .i64 t276, .string t277, .int .i64 t278, .int .i64 t279, .int .i64 t280, .slice none 0 0, .int .i64 0]) ?_ 5 _ rfl; refine blk_up ?_; refine blk_put (cs := #[.int .i64 t276, .string t277, .int .i64 t278, .int .i64 t279, .int .i64 0, .slice none 0 0, .int .i64 0]) ?_ 4 _ rfl; refine blk_up ?_; refine blk_put (cs := #[.int .i64 t276, .string t277, .int .i64 t278, .int .i64 0, .int .i64 0, .slice none 0 0, .int .i64 0]) ?_ 3 _ rfl; refine blk_up ?_; refine blk_put (cs := #[.int .i64 t276, .string t277, .int .i64 0, .int .i64 0, .int .i64 0, .slice none 0 0, .int .i64 0]) ?_ 2 _ rfl; refine blk_up ?_; refine blk_put (cs := #[.int .i64 t276, .string (⟨#[]⟩ : ByteArray), .int .i64 0, .int .i64 0, .int .i64 0, .slice none 0 0, .int .i64 0]) ?_ 1 _ rfl; refine blk_up ?_; refine blk_put (cs := #[.int .i64 0, .string (⟨#[]⟩ : ByteArray), .int .i64 0, .int .i64 0, .int .i64 0, .slice none 0 0, .int .i64 0]) ?_ 0 _ rfl; refine blk_up ?_; exact BK286.out⟩
          have n4_ : Aside0 (Below w.heap.size w (((((((w82.setCell ⟨gb286, 0, none⟩ (.int .i64 t276)).setCell ⟨gb286, 1, none⟩ (.string t277)).setCell ⟨gb286, 2, none⟩ (.int .i64 t278)).setCell ⟨gb286, 3, none⟩ (.int .i64 t279)).setCell ⟨gb286, 4, none⟩ (.int .i64 t280)).setCell ⟨gb286, 5, none⟩ (.slice Ao85 t281.length co85)).setCell ⟨gb286, 6, none⟩ (.int .i64 t284))) := ⟨by repeat (first | (with_reducible first | exact HB.out | apply below_alloc | apply pw_below_drewN | apply below_drew1 | refine below_setA ?_ ‹_›) | exact HB.out)⟩
          (try clear HO_3)
          (try clear HO283)
          (try clear BK251)
          (try clear BK286)
          (try clear HB)
          generalize (((((((w82.setCell ⟨gb286, 0, none⟩ (.int .i64 t276)).setCell ⟨gb286, 1, none⟩ (.string t277)).setCell ⟨gb286, 2, none⟩ (.int .i64 t278)).setCell ⟨gb286, 3, none⟩ (.int .i64 t279)).setCell ⟨gb286, 4, none⟩ (.int .i64 t280)).setCell ⟨gb286, 5, none⟩ (.slice Ao85 t281.length co85)).setCell ⟨gb286, 6, none⟩ (.int .i64 t284)) = w86 at n0_ n1_ n2_ n3_ n4_ ⊢
          have HO_3 := n0_; have HO283 := n1_; have BK251 := n2_; have BK286 := n3_; have HB := n4_; clear n0_ n1_ n2_ n3_ n4_
          have n0_ := Aside0.mk (Kd.R_drew HO_3.out)
          have n1_ := Aside0.mk (Kd.R_drew HO283.out)
          have n2_ := Aside0.mk (blk_drew BK251.out)
          have n3_ := Aside0.mk (blk_drew BK286.out)
          have n4_ := Aside0.mk (below_drew1 HB.out)
          clear HO_3; clear HO283; clear BK251; clear BK286; clear HB; have HO_3 := n0_; have HO283 := n1_; have BK251 := n2_; have BK286 := n3_; have HB := n4_; clear n0_ n1_ n2_ n3_ n4_
          refine start_ (n := 17) (S := fun w' => True) (ds := []) #[false, false, false, false, false, false, false, false, false, false, false, false, false, false, false, false, false] (by kernel_rfl) rfl rfl trivial (fun hHeld => ?_); refine with_tabW thresherlaw14_JobBytes.tab19 thresherlaw14_JobBytes.bits19 (fun HT_ HW_ => ?_)
          generalize w86.drew = w87 at HO_3 HO283 BK251 BK286 HB hHeld ⊢
          refine pure_ (i := 0) (N := some 101) (v := ?_) (a' := ?_) #[true, false, false, false, false, false, false, false, false, false, false, false, false, false, false, false, false] rfl rfl (any_of HT_.out (by kernel_rfl)) (fun _ _ _ h => h) (Or.inl ⟨by rfl, ?_⟩) ?_ ?_
          rotate_left
          ·
           intro w'
           go_simp
           with_reducible rfl
          rotate_left
          ·
           simp only [Act.put, List.setIfInBounds_toArray, List.set_cons_zero, List.set_cons_succ, i64_w, i32_w]
           rfl
          refine pure_ (i := 1) (N := some 102) (v := ?_) (a' := ?_) #[true, true, false, false, false, false, false, false, false, false, false, false, false, false, false, false, false] rfl rfl (any_of HT_.out (by kernel_rfl)) (fun _ _ _ h => h) (Or.inl ⟨by rfl, ?_⟩) ?_ ?_
          rotate_left
          ·
           intro w'
           go_simp
           with_reducible rfl
          rotate_left
          ·
           simp only [Act.put, List.setIfInBounds_toArray, List.set_cons_zero, List.set_cons_succ, i64_w, i32_w]
           rfl
          refine pure_ (i := 2) (N := some 103) (v := ?_) (a' := ?_) #[true, true, true, false, false, false, false, false, false, false, false, false, false, false, false, false, false] rfl rfl (any_of HT_.out (by kernel_rfl)) (fun _ _ _ h => h) (Or.inl ⟨by rfl, ?_⟩) ?_ ?_
          rotate_left
          ·
           intro w'
           go_simp
           with_reducible rfl
          rotate_left
          ·
           simp only [Act.put, List.setIfInBounds_toArray, List.set_cons_zero, List.set_cons_succ, i64_w, i32_w]
           rfl
          refine pure_ (i := 3) (N := some 104) (v := ?_) (a' := ?_) #[true, true, true, true, false, false, false, false, false, false, false, false, false, false, false, false, false] rfl rfl (any_of HT_.out (by kernel_rfl)) (fun _ _ _ h => h) (Or.inl ⟨by rfl, ?_⟩) ?_ ?_
          rotate_left
          ·
           intro w'
           go_simp
           with_reducible rfl
          rotate_left
          ·
           simp only [Act.put, List.setIfInBounds_toArray, List.set_cons_zero, List.set_cons_succ, i64_w, i32_w]
           rfl
          refine one_ (i := 4) (N := some 105) #[true, true, true, true, true, false, false, false, false, false, false, false, false, false, false, false, false] rfl rfl (one_of HT_.out (by kernel_rfl)) (by decide) (fun K hK => ?_)
          refine goes_ Tryz.func27 (by kernel_rfl) rfl #[.int .i64 t285] (by rfl) rfl rfl (by (try simp only [List.map_toArray, List.map_cons, List.map_nil]); first | done | rfl | (simp only [List.length_drop, List.length_take]; rfl)) ?_
          with_reducible refine (thresherlaw14_num.calls t285 t287 _ A59.out).mono ?_
          rintro e w' ⟨rfl, ⟨nd, rfl⟩⟩
          refine ⟨_, rfl, ?_⟩
          refine hK.out _ _ trivial (fun hHeld => ?_)
          clear hK K
          refine norm_ (a' := ?_) ?_ ?_
          rotate_left
          ·
           show Act.put _ (some 105) _ = _
           simp only [Act.put, List.setIfInBounds_toArray, List.set_cons_zero, List.set_cons_succ, i64_w, i32_w]
           rfl
          refine pure_ (i := 5) (N := some 106) (v := ?_) (a' := ?_) #[true, true, true, true, true, true, false, false, false, false, false, false, false, false, false, false, false] rfl rfl (any_of HT_.out (by kernel_rfl)) (fun _ _ _ h => h) (Or.inl ⟨by rfl, ?_⟩) ?_ ?_
          rotate_left
          ·
           intro w'
           go_simp
           with_reducible rfl
          rotate_left
          ·
           simp only [Act.put, List.setIfInBounds_toArray, List.set_cons_zero, List.set_cons_succ, i64_w, i32_w]
           rfl
          refine pure_ (i := 6) (N := some 107) (v := ?_) (a' := ?_) #[true, true, true, true, true, true, true, false, false, false, false, false, false, false, false, false, false] rfl rfl (any_of HT_.out (by kernel_rfl)) (fun _ _ _ h => h) (Or.inl ⟨by rfl, ?_⟩) ?_ ?_
          rotate_left
          ·
           intro w'
           go_simp
           with_reducible rfl
          rotate_left
          ·
           simp only [Act.put, List.setIfInBounds_toArray, List.set_cons_zero, List.set_cons_succ, i64_w, i32_w]
           rfl
          refine pure_ (i := 7) (N := some 108) (v := undef) (a' := ?_) #[true, true, true, true, true, true, true, true, false, false, false, false, false, false, false, false, false] rfl rfl (any_of HT_.out (by kernel_rfl)) (fun _ _ _ h => h) (Or.inr ⟨by rfl, rfl⟩) ?_ ?_
          rotate_left
          ·
           simp only [Act.put, List.setIfInBounds_toArray, List.set_cons_zero, List.set_cons_succ, i64_w, i32_w]
           rfl
          refine pure_ (i := 8) (N := some 109) (v := undef) (a' := ?_) #[true, true, true, true, true, true, true, true, true, false, false, false, false, false, false, false, false] rfl rfl (any_of HT_.out (by kernel_rfl)) (fun _ _ _ h => h) (Or.inr ⟨by rfl, rfl⟩) ?_ ?_
          rotate_left
          ·
           simp only [Act.put, List.setIfInBounds_toArray, List.set_cons_zero, List.set_cons_succ, i64_w, i32_w]
           rfl
          refine pure_ (i := 9) (N := some 110) (v := undef) (a' := ?_) #[true, true, true, true, true, true, true, true, true, true, false, false, false, false, false, false, false] rfl rfl (any_of HT_.out (by kernel_rfl)) (fun _ _ _ h => h) (Or.inr ⟨by rfl, rfl⟩) ?_ ?_
          rotate_left
          ·
           simp only [Act.put, List.setIfInBounds_toArray, List.set_cons_zero, List.set_cons_succ, i64_w, i32_w]
           rfl
          refine pure_ (i := 10) (N := some 111) (v := undef) (a' := ?_) #[true, true, true, true, true, true, true, true, true, true, true, false, false, false, false, false, false] rfl rfl (any_of HT_.out (by kernel_rfl)) (fun _ _ _ h => h) (Or.inr ⟨by rfl, rfl⟩) ?_ ?_
          rotate_left
          ·
           simp only [Act.put, List.setIfInBounds_toArray, List.set_cons_zero, List.set_cons_succ, i64_w, i32_w]
           rfl
          refine pure_ (i := 11) (N := some 112) (v := undef) (a' := ?_) #[true, true, true, true, true, true, true, true, true, true, true, true, false, false, false, false, false] rfl rfl (any_of HT_.out (by kernel_rfl)) (fun _ _ _ h => h) (Or.inr ⟨by rfl, rfl⟩) ?_ ?_
          rotate_left
          ·
           simp only [Act.put, List.setIfInBounds_toArray, List.set_cons_zero, List.set_cons_succ, i64_w, i32_w]
           rfl
          refine pure_ (i := 12) (N := some 113) (v := undef) (a' := ?_) #[true, true, true, true, true, true, true, true, true, true, true, true, true, false, false, false, false] rfl rfl (any_of HT_.out (by kernel_rfl)) (fun _ _ _ h => h) (Or.inr ⟨by rfl, rfl⟩) ?_ ?_
          rotate_left
          ·
           simp only [Act.put, List.setIfInBounds_toArray, List.set_cons_zero, List.set_cons_succ, i64_w, i32_w]
           rfl
          refine pure_ (i := 13) (N := some 114) (v := undef) (a' := ?_) #[true, true, true, true, true, true, true, true, true, true, true, true, true, true, false, false, false] rfl rfl (any_of HT_.out (by kernel_rfl)) (fun _ _ _ h => h) (Or.inr ⟨by rfl, rfl⟩) ?_ ?_
          rotate_left
          ·
           simp only [Act.put, List.setIfInBounds_toArray, List.set_cons_zero, List.set_cons_succ, i64_w, i32_w]
           rfl
          refine pure_ (i := 14) (N := some 115) (v := undef) (a' := ?_) #[true, true, true, true, true, true, true, true, true, true, true, true, true, true, true, false, false] rfl rfl (any_of HT_.out (by kernel_rfl)) (fun _ _ _ h => h) (Or.inr ⟨by rfl, rfl⟩) ?_ ?_
          rotate_left
          ·
           simp only [Act.put, List.setIfInBounds_toArray, List.set_cons_zero, List.set_cons_succ, i64_w, i32_w]
           rfl
          refine pure_ (i := 15) (N := some 116) (v := ?_) (a' := ?_) #[true, true, true, true, true, true, true, true, true, true, true, true, true, true, true, true, false] rfl rfl (any_of HT_.out (by kernel_rfl)) (fun _ _ _ h => h) (Or.inl ⟨by rfl, ?_⟩) ?_ ?_
          rotate_left
          ·
           intro w'
           go_simp
           with_reducible rfl
          rotate_left
          ·
           simp only [Act.put, List.setIfInBounds_toArray, List.set_cons_zero, List.set_cons_succ, i64_w, i32_w]
           rfl
          refine pure_ (i := 16) (N := some 117) (v := ?_) (a' := ?_) #[true, true, true, true, true, true, true, true, true, true, true, true, true, true, true, true, true] rfl rfl (any_of HT_.out (by kernel_rfl)) (fun _ _ _ h => h) (Or.inl ⟨by rfl, ?_⟩) ?_ ?_
          rotate_left
          ·
           intro w'
           go_simp
           with_reducible rfl
          rotate_left
          ·
           simp only [Act.put, List.setIfInBounds_toArray, List.set_cons_zero, List.set_cons_succ, i64_w, i32_w]
           rfl
          refine done_ (done_of HT_.out (by kernel_rfl)) ?_
          try go_wp2
          go_ret
          exact ⟨by first | rfl | (simp [errW_none, errW_some] <;> rfl) | (simp [*, errW_none, errW_some] <;> rfl), by repeat (first | (with_reducible first | exact HB.out | apply below_alloc | apply pw_below_drewN | apply below_drew1 | refine below_setA ?_ ‹_›) | exact HB.out)⟩
         rw [if_pos c60] at H
         have c60b0 : (t287 == 0) = true := beq_iff_eq.mpr c60
         have c60b1 : (t287 != 0) = false := bne_eq_false_iff_eq.mpr c60
         clear c60
         by_cases c61 : 0 ≤ x4_1
         rotate_left
         ·
          rw [if_neg c61] at H
          exact absurd H (by simp)
         rw [if_pos c61] at H
         have c61b0 : decide (0 ≤ x4_1) = true := decide_eq_true c61
         clear c61
         by_cases c62 : x4_1 < (l0_5.length : Int)
         rotate_left
         ·
          rw [if_neg c62] at H
          exact absurd H (by simp)
         rw [if_pos c62] at H
         have c62b0 : decide (x4_1 < (l0_5.length : Int)) = true := decide_eq_true c62
         clear c62
         replace H := Option.bind_eq_some_iff.mp H
         obtain ⟨t289, A630, H⟩ := H
         replace H : (if t289 = true then (thresherlaw14_JobBytes.l0 kj41 x3_21 (wrap64 (x4_1 + 1)) a0_0 l0_1 a0_2 a0_3 l0_4 l0_5 a0_6) else (some false)) = some r := H
         have A63 := Aside0.mk A630; clear A630
         by_cases c64 : t289 = true
         rotate_left
         ·
          replace c64 := Bool.eq_false_iff.mpr c64
          subst c64
          have H1 : (some false) = some r := by rw [if_neg (show ¬ (false = true) by decide)] at H; exact H
          clear H; have H := H1; clear H1
          obtain rfl := Option.some.inj H
          try go_wp2_with (first | ((with_reducible refine gate_callee (f := 29) rfl ?_); refine goesL_ (some 98) rfl rfl Tryz.func29 (by kernel_rfl) rfl #[.string t257] rfl (by (try simp only [List.map_toArray, List.map_cons, List.map_nil]); first | done | rfl | (simp only [List.length_drop, List.length_take]; rfl)) ?_; (with_reducible refine (job_Take.calls kj41 t257 t276 t277 t278 t279 t280 t281 t284 t285 _ A57.out).mono ?_); rintro e w73 ⟨v282, rfl, ho0, hb⟩; refine ⟨_, rfl, ?_⟩; have n0_ := Aside0.mk (Kd.R_below (by (with_reducible repeat (first | apply Kd.R_alloc | apply Kd.R_drewN | apply Kd.R_drew)); exact HO_3.out) hb); have n1_ := Aside0.mk (Kd.R_lower ho0 (below_size (by repeat (first | (with_reducible first | exact HB.out | apply below_alloc | apply pw_below_drewN | apply below_drew1 | refine below_setA ?_ ‹_›) | exact HB.out)))); have n2_ := Aside0.mk (blk_below (blk_up BK251.out) hb); have n3_ := Aside0.mk (below_step (by repeat (first | (with_reducible first | exact HB.out | apply below_alloc | apply pw_below_drewN | apply below_drew1 | refine below_setA ?_ ‹_›) | exact HB.out)) hb); clear HO_3; clear BK251; clear HB; have HO_3 := n0_; have HO283 := n1_; have BK251 := n2_; have HB := n3_; clear n0_ n1_ n2_ n3_; (try clear hb); (try clear hb2); (try clear hk); (try clear hi); (try clear ho0)) | ((with_reducible refine gate_dst (N := 10) rfl ?_); refine box_event ?hg (N := 10) ?hd (cs := #[.int .i64 0, .string (⟨#[]⟩ : ByteArray), .int .i64 0, .int .i64 0, .int .i64 0, .slice none 0 0, .int .i64 0]) (t := 63) ?hr ?_; (case hd => rfl); (case hg => rfl); (case hr => first | (go_simp; done) | (go_simp; rfl)); intro gb286 hg w74 hbox hb; have n0_ := Aside0.mk (Kd.R_below (by (with_reducible repeat (first | apply Kd.R_alloc | apply Kd.R_drewN | apply Kd.R_drew)); exact HO_3.out) hb); have n1_ := Aside0.mk (Kd.R_below (by (with_reducible repeat (first | apply Kd.R_alloc | apply Kd.R_drewN | apply Kd.R_drew)); exact HO283.out) hb); have n2_ := Aside0.mk (blk_below (blk_up BK251.out) hb); have n3_ := Aside0.mk (below_step (by repeat (first | (with_reducible first | exact HB.out | apply below_alloc | apply pw_below_drewN | apply below_drew1 | refine below_setA ?_ ‹_›) | exact HB.out)) hb); have n4_ := Aside0.mk (hbox); have n5_ := Aside0.mk ((by rw [hg]; exact (below_size (by repeat (first | (with_reducible first | exact HB.out | apply below_alloc | apply pw_below_drewN | apply below_drew1 | refine below_setA ?_ ‹_›) | exact HB.out))) : w.heap.size ≤ gb286)); have n6_ := n5_; have n7_ := Aside0.mk ((by rw [hg]; exact Nat.ne_of_lt (blk_lt (blk_up BK251.out)) : gb251 ≠ gb286)); have n8_ := Aside0.mk ((by rw [hg]; exact Nat.ne_of_gt (blk_lt (blk_up BK251.out)) : gb286 ≠ gb251)); clear HO_3; clear HO283; clear BK251; clear HB; have HO_3 := n0_; have HO283 := n1_; have BK251 := n2_; have HB := n3_; have BK286 := n4_; have GW286 := n5_; have GE286 := n6_; have NB251_286 := n7_; have NB286_251 := n8_; clear n0_ n1_ n2_ n3_ n4_ n5_ n6_ n7_ n8_; clear hb hbox hg; have hnb75 := NB286_251.out; have hnc75 := NB251_286.out; obtain ⟨hcz76_0, hcz76_1, hcz76_2, hcz76_3, hcz76_4, hcz76_5, hcz76_6, hfz76_0, hfz76_1, hfz76_2, hfz76_3, hfz76_4, hfz76_5, hfz76_6⟩ := blkall_7 BK286.out; obtain ⟨Ao77, co77, eo77⟩ := Kd.R_slice HO283.out; subst eo77))
          have n0_ : Aside0 (Kd.R Kd.string 9 (((((((w74.setCell ⟨gb286, 0, none⟩ (.int .i64 t276)).setCell ⟨gb286, 1, none⟩ (.string t277)).setCell ⟨gb286, 2, none⟩ (.int .i64 t278)).setCell ⟨gb286, 3, none⟩ (.int .i64 t279)).setCell ⟨gb286, 4, none⟩ (.int .i64 t280)).setCell ⟨gb286, 5, none⟩ (.slice Ao77 t281.length co77)).setCell ⟨gb286, 6, none⟩ (.int .i64 t284)) w.heap.size (fun _ => True) u3 x3_21) := ⟨by (with_reducible repeat (first | apply Kd.R_alloc | apply Kd.R_drewN | apply Kd.R_drew)); exact Kd.R_mono (Kd.R_far (p := ⟨gb286, 6, none⟩) (Kd.R_far (p := ⟨gb286, 5, none⟩) (Kd.R_far (p := ⟨gb286, 4, none⟩) (Kd.R_far (p := ⟨gb286, 3, none⟩) (Kd.R_far (p := ⟨gb286, 2, none⟩) (Kd.R_far (p := ⟨gb286, 1, none⟩) (Kd.R_far (p := ⟨gb286, 0, none⟩) (Kd.R_types HO_3.out BK286.out (by decide)) (fun _ hk => hk.2) (.int .i64 t276)) (fun _ hk => hk.2) (.string t277)) (fun _ hk => hk.2) (.int .i64 t278)) (fun _ hk => hk.2) (.int .i64 t279)) (fun _ hk => hk.2) (.int .i64 t280)) (fun _ hk => hk.2) (.slice Ao77 t281.length co77)) (fun _ hk => hk.2) (.int .i64 t284)) (fun _ hk => trivial)⟩
          have n1_ : Aside0 (Kd.R (Kd.int .i64) 3 (((((((w74.setCell ⟨gb286, 0, none⟩ (.int .i64 t276)).setCell ⟨gb286, 1, none⟩ (.string t277)).setCell ⟨gb286, 2, none⟩ (.int .i64 t278)).setCell ⟨gb286, 3, none⟩ (.int .i64 t279)).setCell ⟨gb286, 4, none⟩ (.int .i64 t280)).setCell ⟨gb286, 5, none⟩ (.slice Ao77 t281.length co77)).setCell ⟨gb286, 6, none⟩ (.int .i64 t284)) w.heap.size (fun _ => True) (.slice Ao77 t281.length co77) t281) := ⟨by (with_reducible repeat (first | apply Kd.R_alloc | apply Kd.R_drewN | apply Kd.R_drew)); exact Kd.R_mono (Kd.R_far (p := ⟨gb286, 6, none⟩) (Kd.R_far (p := ⟨gb286, 5, none⟩) (Kd.R_far (p := ⟨gb286, 4, none⟩) (Kd.R_far (p := ⟨gb286, 3, none⟩) (Kd.R_far (p := ⟨gb286, 2, none⟩) (Kd.R_far (p := ⟨gb286, 1, none⟩) (Kd.R_far (p := ⟨gb286, 0, none⟩) (Kd.R_types HO283.out BK286.out (by decide)) (fun _ hk => hk.2) (.int .i64 t276)) (fun _ hk => hk.2) (.string t277)) (fun _ hk => hk.2) (.int .i64 t278)) (fun _ hk => hk.2) (.int .i64 t279)) (fun _ hk => hk.2) (.int .i64 t280)) (fun _ hk => hk.2) (.slice Ao77 t281.length co77)) (fun _ hk => hk.2) (.int .i64 t284)) (fun _ hk => trivial)⟩
          have n2_ : Aside0 ((((((((w74.setCell ⟨gb286, 0, none⟩ (.int .i64 t276)).setCell ⟨gb286, 1, none⟩ (.string t277)).setCell ⟨gb286, 2, none⟩ (.int .i64 t278)).setCell ⟨gb286, 3, none⟩ (.int .i64 t279)).setCell ⟨gb286, 4, none⟩ (.int .i64 t280)).setCell ⟨gb286, 5, none⟩ (.slice Ao77 t281.length co77)).setCell ⟨gb286, 6, none⟩ (.int .i64 t284)).heap[gb251]? = some (.cells #[.int .i64 a0_0, .slice A0_1 l0_1.length c0_1, .int .i64 a0_2, .int .i64 a0_3, .slice A0_4 l0_4.length c0_4, .slice (some ad256) l0_5.length c0_5, .string a0_6] 57 (0, 0))) := ⟨by (with_reducible repeat (first | refine blk_drewN ?_ _ | refine blk_drew ?_ | refine blk_alloc ?_ _ | refine blk_far ?_ NB251_286.out _)); exact BK251.out⟩
          have n3_ : Aside0 ((((((((w74.setCell ⟨gb286, 0, none⟩ (.int .i64 t276)).setCell ⟨gb286, 1, none⟩ (.string t277)).setCell ⟨gb286, 2, none⟩ (.int .i64 t278)).setCell ⟨gb286, 3, none⟩ (.int .i64 t279)).setCell ⟨gb286, 4, none⟩ (.int .i64 t280)).setCell ⟨gb286, 5, none⟩ (.slice Ao77 t281.length co77)).setCell ⟨gb286, 6, none⟩ (.int .i64 t284)).heap[gb286]? = some (.cells #[.int .i64 t276, .string t277, .int .i64 t278, .int .i64 t279, .int .i64 t280, .slice Ao77 t281.length co77, .int .i64 t284] 63 (0, 0))) := ⟨by refine blk_up ?_; refine blk_put (cs := #[.int .i64 t276, .string t277, .int .i64 t278, .int .i64 t279, .int .i64 t280, .slice Ao77 t281.length co77, .int .i64 0]) ?_ 6 _ rfl; refine blk_up ?_; refine blk_put (cs := #[.int .i64 t276, .string t277, .int .i64 t278, .int .i64 t279, .int .i64 t280, .slice none 0 0, .int .i64 0]) ?_ 5 _ rfl; refine blk_up ?_; refine blk_put (cs := #[.int .i64 t276, .string t277, .int .i64 t278, .int .i64 t279, .int .i64 0, .slice none 0 0, .int .i64 0]) ?_ 4 _ rfl; refine blk_up ?_; refine blk_put (cs := #[.int .i64 t276, .string t277, .int .i64 t278, .int .i64 0, .int .i64 0, .slice none 0 0, .int .i64 0]) ?_ 3 _ rfl; refine blk_up ?_; refine blk_put (cs := #[.int .i64 t276, .string t277, .int .i64 0, .int .i64 0, .int .i64 0, .slice none 0 0, .int .i64 0]) ?_ 2 _ rfl; refine blk_up ?_; refine blk_put (cs := #[.int .i64 t276, .string (⟨#[]⟩ : ByteArray), .int .i64 0, .int .i64 0, .int .i64 0, .slice none 0 0, .int .i64 0]) ?_ 1 _ rfl; refine blk_up ?_; refine blk_put (cs := #[.int .i64 0, .string (⟨#[]⟩ : ByteArray), .int .i64 0, .int .i64 0, .int .i64 0, .slice none 0 0, .int .i64 0]) ?_ 0 _ rfl; refine blk_up ?_; exact BK286.out⟩
          have n4_ : Aside0 (Below w.heap.size w (((((((w74.setCell ⟨gb286, 0, none⟩ (.int .i64 t276)).setCell ⟨gb286, 1, none⟩ (.string t277)).setCell ⟨gb286, 2, none⟩ (.int .i64 t278)).setCell ⟨gb286, 3, none⟩ (.int .i64 t279)).setCell ⟨gb286, 4, none⟩ (.int .i64 t280)).setCell ⟨gb286, 5, none⟩ (.slice Ao77 t281.length co77)).setCell ⟨gb286, 6, none⟩ (.int .i64 t284))) := ⟨by repeat (first | (with_reducible first | exact HB.out | apply below_alloc | apply pw_below_drewN | apply below_drew1 | refine below_setA ?_ ‹_›) | exact HB.out)⟩
          (try clear HO_3)
          (try clear HO283)
          (try clear BK251)
          (try clear BK286)
          (try clear HB)
          generalize (((((((w74.setCell ⟨gb286, 0, none⟩ (.int .i64 t276)).setCell ⟨gb286, 1, none⟩ (.string t277)).setCell ⟨gb286, 2, none⟩ (.int .i64 t278)).setCell ⟨gb286, 3, none⟩ (.int .i64 t279)).setCell ⟨gb286, 4, none⟩ (.int .i64 t280)).setCell ⟨gb286, 5, none⟩ (.slice Ao77 t281.length co77)).setCell ⟨gb286, 6, none⟩ (.int .i64 t284)) = w78 at n0_ n1_ n2_ n3_ n4_ ⊢
          have HO_3 := n0_; have HO283 := n1_; have BK251 := n2_; have BK286 := n3_; have HB := n4_; clear n0_ n1_ n2_ n3_ n4_
          have n0_ := Aside0.mk (Kd.R_drew HO_3.out)
          have n1_ := Aside0.mk (Kd.R_drew HO283.out)
          have n2_ := Aside0.mk (blk_drew BK251.out)
          have n3_ := Aside0.mk (blk_drew BK286.out)
          have n4_ := Aside0.mk (below_drew1 HB.out)
          clear HO_3; clear HO283; clear BK251; clear BK286; clear HB; have HO_3 := n0_; have HO283 := n1_; have BK251 := n2_; have BK286 := n3_; have HB := n4_; clear n0_ n1_ n2_ n3_ n4_
          have p288 : 0 ≤ (x4_1 : Int) := of_decide_eq_true (by first | (with_reducible assumption) | assumption)
          have q288 : x4_1 < (l0_5.length : Int) := of_decide_eq_true (by first | (with_reducible assumption) | assumption)
          obtain ⟨ad288, A288_5, c288_5, e288, hx288_0, hx288_1, hx288_2, hx288_3, hx288_4, hx288_5, hx288_6, hl288_5, hi288_5⟩ := at_T63 HR0_5.out x4_1 p288 q288
          have hw288_6 := hx288_6; have hw288_5 := hx288_5; have hw288_4 := hx288_4; have hw288_3 := hx288_3; have hw288_2 := hx288_2; have hw288_1 := hx288_1; have hw288_0 := hx288_0
          obtain rfl : ad256 = ad288 := (by injection e288)
          replace hx288_0 := (HB.out.cell (World.block_lt_of_cell? w _ hx288_0)).trans hx288_0
          replace hx288_1 := (HB.out.cell (World.block_lt_of_cell? w _ hx288_1)).trans hx288_1
          replace hx288_2 := (HB.out.cell (World.block_lt_of_cell? w _ hx288_2)).trans hx288_2
          replace hx288_3 := (HB.out.cell (World.block_lt_of_cell? w _ hx288_3)).trans hx288_3
          replace hx288_4 := (HB.out.cell (World.block_lt_of_cell? w _ hx288_4)).trans hx288_4
          replace hx288_5 := (HB.out.cell (World.block_lt_of_cell? w _ hx288_5)).trans hx288_5
          replace hx288_6 := (HB.out.cell (World.block_lt_of_cell? w _ hx288_6)).trans hx288_6
          have HR288_5 := Aside0.mk hi288_5; have HC288_5 := Aside0.mk hl288_5; clear hi288_5 hl288_5
          replace p288 := eq_true p288
          replace q288 := eq_true q288
          refine start_ (n := 17) (S := fun w' => w'.cell? ⟨gb286, 0, none⟩ = some (.int .i64 t276) ∧ w'.cell? ⟨gb286, 1, none⟩ = some (.string t277) ∧ w'.cell? ⟨gb286, 2, none⟩ = some (.int .i64 t278) ∧ w'.cell? ⟨gb286, 3, none⟩ = some (.int .i64 t279) ∧ w'.cell? ⟨gb286, 4, none⟩ = some (.int .i64 t280) ∧ w'.cell? ⟨gb286, 5, none⟩ = some (.slice Ao77 t281.length co77) ∧ w'.cell? ⟨gb286, 6, none⟩ = some (.int .i64 t284) ∧ w'.cell? ⟨gb251, 0, none⟩ = some (.int .i64 a0_0) ∧ w'.cell? ⟨gb251, 1, none⟩ = some (.slice A0_1 l0_1.length c0_1) ∧ w'.cell? ⟨gb251, 2, none⟩ = some (.int .i64 a0_2) ∧ w'.cell? ⟨gb251, 3, none⟩ = some (.int .i64 a0_3) ∧ w'.cell? ⟨gb251, 4, none⟩ = some (.slice A0_4 l0_4.length c0_4) ∧ w'.cell? ⟨gb251, 5, none⟩ = some (.slice (some ad256) l0_5.length c0_5) ∧ w'.cell? ⟨gb251, 6, none⟩ = some (.string a0_6) ∧ w'.cell? (ad256.add ((x4_1).toNat * 7)) = some (.int .i64 ((rd_T63 l0_5 x4_1).f0)) ∧ w'.cell? ⟨(ad256.add ((x4_1).toNat * 7)).block, (ad256.add ((x4_1).toNat * 7)).off + 1, none⟩ = some (.string ((rd_T63 l0_5 x4_1).f1)) ∧ w'.cell? ⟨(ad256.add ((x4_1).toNat * 7)).block, (ad256.add ((x4_1).toNat * 7)).off + 2, none⟩ = some (.int .i64 ((rd_T63 l0_5 x4_1).f2)) ∧ w'.cell? ⟨(ad256.add ((x4_1).toNat * 7)).block, (ad256.add ((x4_1).toNat * 7)).off + 3, none⟩ = some (.int .i64 ((rd_T63 l0_5 x4_1).f3)) ∧ w'.cell? ⟨(ad256.add ((x4_1).toNat * 7)).block, (ad256.add ((x4_1).toNat * 7)).off + 4, none⟩ = some (.int .i64 ((rd_T63 l0_5 x4_1).f4)) ∧ w'.cell? ⟨(ad256.add ((x4_1).toNat * 7)).block, (ad256.add ((x4_1).toNat * 7)).off + 5, none⟩ = some (.slice A288_5 ((rd_T63 l0_5 x4_1).f5).length c288_5) ∧ w'.cell? ⟨(ad256.add ((x4_1).toNat * 7)).block, (ad256.add ((x4_1).toNat * 7)).off + 6, none⟩ = some (.int .i64 ((rd_T63 l0_5 x4_1).f6))) (ds := []) #[false, false, false, false, false, false, false, false, false, false, false, false, false, false, false, false, false] (by kernel_rfl) rfl rfl ⟨(blk_cell BK286.out 0).trans rfl, (blk_cell BK286.out 1).trans rfl, (blk_cell BK286.out 2).trans rfl, (blk_cell BK286.out 3).trans rfl, (blk_cell BK286.out 4).trans rfl, (blk_cell BK286.out 5).trans rfl, (blk_cell BK286.out 6).trans rfl, (blk_cell BK251.out 0).trans rfl, (blk_cell BK251.out 1).trans rfl, (blk_cell BK251.out 2).trans rfl, (blk_cell BK251.out 3).trans rfl, (blk_cell BK251.out 4).trans rfl, (blk_cell BK251.out 5).trans rfl, (blk_cell BK251.out 6).trans rfl, ((HB.out.cell (World.block_lt_of_cell? w _ hw288_0)).trans hw288_0), ((HB.out.cell (World.block_lt_of_cell? w _ hw288_1)).trans hw288_1), ((HB.out.cell (World.block_lt_of_cell? w _ hw288_2)).trans hw288_2), ((HB.out.cell (World.block_lt_of_cell? w _ hw288_3)).trans hw288_3), ((HB.out.cell (World.block_lt_of_cell? w _ hw288_4)).trans hw288_4), ((HB.out.cell (World.block_lt_of_cell? w _ hw288_5)).trans hw288_5), ((HB.out.cell (World.block_lt_of_cell? w _ hw288_6)).trans hw288_6)⟩ (fun hHeld => ?_); refine with_tabW thresherlaw14_JobBytes.tab19 thresherlaw14_JobBytes.bits19 (fun HT_ HW_ => ?_)
          generalize w78.drew = w79 at HO_3 HO283 BK251 BK286 HB HR288_5 hx288_0 hx288_1 hx288_2 hx288_3 hx288_4 hx288_5 hx288_6 hHeld ⊢
          refine pure_ (i := 0) (N := some 101) (v := ?_) (a' := ?_) #[true, false, false, false, false, false, false, false, false, false, false, false, false, false, false, false, false] rfl rfl (any_of HT_.out (by kernel_rfl)) (fun _ _ _ h => h) (Or.inl ⟨by rfl, ?_⟩) ?_ ?_
          rotate_left
          ·
           intro w'
           go_simp
           with_reducible rfl
          rotate_left
          ·
           simp only [Act.put, List.setIfInBounds_toArray, List.set_cons_zero, List.set_cons_succ, i64_w, i32_w]
           rfl
          refine pure_ (i := 1) (N := some 102) (v := ?_) (a' := ?_) #[true, true, false, false, false, false, false, false, false, false, false, false, false, false, false, false, false] rfl rfl (any_of HT_.out (by kernel_rfl)) (fun _ _ _ h => h) (Or.inl ⟨by rfl, ?_⟩) ?_ ?_
          rotate_left
          ·
           intro w'
           go_simp
           with_reducible rfl
          rotate_left
          ·
           simp only [Act.put, List.setIfInBounds_toArray, List.set_cons_zero, List.set_cons_succ, i64_w, i32_w]
           rfl
          refine pure_ (i := 2) (N := some 103) (v := ?_) (a' := ?_) #[true, true, true, false, false, false, false, false, false, false, false, false, false, false, false, false, false] rfl rfl (any_of HT_.out (by kernel_rfl)) (fun _ _ _ h => h) (Or.inl ⟨by rfl, ?_⟩) ?_ ?_
          rotate_left
          ·
           intro w'
           go_simp
           with_reducible rfl
          rotate_left
          ·
           simp only [Act.put, List.setIfInBounds_toArray, List.set_cons_zero, List.set_cons_succ, i64_w, i32_w]
           rfl
          refine pure_ (i := 3) (N := some 104) (v := ?_) (a' := ?_) #[true, true, true, true, false, false, false, false, false, false, false, false, false, false, false, false, false] rfl rfl (any_of HT_.out (by kernel_rfl)) (fun _ _ _ h => h) (Or.inl ⟨by rfl, ?_⟩) ?_ ?_
          rotate_left
          ·
           intro w'
           go_simp
           with_reducible rfl
          rotate_left
          ·
           simp only [Act.put, List.setIfInBounds_toArray, List.set_cons_zero, List.set_cons_succ, i64_w, i32_w]
           rfl
          refine one_ (i := 4) (N := some 105) #[true, true, true, true, true, false, false, false, false, false, false, false, false, false, false, false, false] rfl rfl (one_of HT_.out (by kernel_rfl)) (by decide) (fun K hK => ?_)
          refine goes_ Tryz.func27 (by kernel_rfl) rfl #[.int .i64 t285] (by rfl) rfl rfl (by (try simp only [List.map_toArray, List.map_cons, List.map_nil]); first | done | rfl | (simp only [List.length_drop, List.length_take]; rfl)) ?_
          with_reducible refine (thresherlaw14_num.calls t285 t287 _ A59.out).mono ?_
          rintro e w' ⟨rfl, ⟨nd, rfl⟩⟩
          refine ⟨_, rfl, ?_⟩
          refine hK.out _ _ ⟨(blk_cell BK286.out 0).trans rfl, (blk_cell BK286.out 1).trans rfl, (blk_cell BK286.out 2).trans rfl, (blk_cell BK286.out 3).trans rfl, (blk_cell BK286.out 4).trans rfl, (blk_cell BK286.out 5).trans rfl, (blk_cell BK286.out 6).trans rfl, (blk_cell BK251.out 0).trans rfl, (blk_cell BK251.out 1).trans rfl, (blk_cell BK251.out 2).trans rfl, (blk_cell BK251.out 3).trans rfl, (blk_cell BK251.out 4).trans rfl, (blk_cell BK251.out 5).trans rfl, (blk_cell BK251.out 6).trans rfl, ((HB.out.cell (World.block_lt_of_cell? w _ hw288_0)).trans hw288_0), ((HB.out.cell (World.block_lt_of_cell? w _ hw288_1)).trans hw288_1), ((HB.out.cell (World.block_lt_of_cell? w _ hw288_2)).trans hw288_2), ((HB.out.cell (World.block_lt_of_cell? w _ hw288_3)).trans hw288_3), ((HB.out.cell (World.block_lt_of_cell? w _ hw288_4)).trans hw288_4), ((HB.out.cell (World.block_lt_of_cell? w _ hw288_5)).trans hw288_5), ((HB.out.cell (World.block_lt_of_cell? w _ hw288_6)).trans hw288_6)⟩ (fun hHeld => ?_)
          clear hK K
          refine norm_ (a' := ?_) ?_ ?_
          rotate_left
          ·
           show Act.put _ (some 105) _ = _
           simp only [Act.put, List.setIfInBounds_toArray, List.set_cons_zero, List.set_cons_succ, i64_w, i32_w]
           rfl
          refine pure_ (i := 5) (N := some 106) (v := ?_) (a' := ?_) #[true, true, true, true, true, true, false, false, false, false, false, false, false, false, false, false, false] rfl rfl (any_of HT_.out (by kernel_rfl)) (fun _ _ _ h => h) (Or.inl ⟨by rfl, ?_⟩) ?_ ?_
          rotate_left
          ·
           intro w'
           go_simp
           with_reducible rfl
          rotate_left
          ·
           simp only [Act.put, List.setIfInBounds_toArray, List.set_cons_zero, List.set_cons_succ, i64_w, i32_w]
           rfl
          refine pure_ (i := 6) (N := some 107) (v := ?_) (a' := ?_) #[true, true, true, true, true, true, true, false, false, false, false, false, false, false, false, false, false] rfl rfl (any_of HT_.out (by kernel_rfl)) (fun _ _ _ h => h) (Or.inl ⟨by rfl, ?_⟩) ?_ ?_
          rotate_left
          ·
           intro w'
           go_simp
           with_reducible rfl
          rotate_left
          ·
           simp only [Act.put, List.setIfInBounds_toArray, List.set_cons_zero, List.set_cons_succ, i64_w, i32_w]
           rfl
          refine pure_ (i := 8) (N := some 109) (v := ?_) (a' := ?_) #[true, true, true, true, true, true, true, false, true, false, false, false, false, false, false, false, false] rfl rfl (any_of HT_.out (by kernel_rfl)) (fun _ _ _ h => h) (Or.inl ⟨by rfl, ?_⟩) ?_ ?_
          rotate_left
          ·
           intro w'
           go_simp
           with_reducible rfl
          rotate_left
          ·
           simp only [Act.put, List.setIfInBounds_toArray, List.set_cons_zero, List.set_cons_succ, i64_w, i32_w]
           rfl
          refine pure_ (i := 10) (N := some 111) (v := ?_) (a' := ?_) #[true, true, true, true, true, true, true, false, true, false, true, false, false, false, false, false, false] rfl rfl (any_of HT_.out (by kernel_rfl)) (fun _ _ _ h => h) (Or.inl ⟨by rfl, ?_⟩) ?_ ?_
          rotate_left
          ·
           intro w'
           go_simp
           with_reducible rfl
          rotate_left
          ·
           simp only [Act.put, List.setIfInBounds_toArray, List.set_cons_zero, List.set_cons_succ, i64_w, i32_w]
           rfl
          refine take_ (i := 7) (N := some 108) (v := ?_) (a' := ?_) #[true, true, true, true, true, true, true, true, true, false, true, false, false, false, false, false, false] rfl rfl (take_ofW HT_.out HW_.out (by kernel_rfl)) (fun _ _ _ h => h) (Or.inl ⟨by rfl, ?_⟩) hHeld ?_ ?_
          rotate_left
          ·
           rintro w' ⟨s0, s1, s2, s3, s4, s5, s6, s7, s8, s9, s10, s11, s12, s13, s14, s15, s16, s17, s18, s19, s20⟩
           go_simp
           with_reducible rfl
          rotate_left
          ·
           simp only [Act.put, List.setIfInBounds_toArray, List.set_cons_zero, List.set_cons_succ, i64_w, i32_w]
           rfl
          refine take_ (i := 9) (N := some 110) (v := ?_) (a' := ?_) #[true, true, true, true, true, true, true, true, true, true, true, false, false, false, false, false, false] rfl rfl (take_ofW HT_.out HW_.out (by kernel_rfl)) (fun _ _ _ h => h) (Or.inl ⟨by rfl, ?_⟩) hHeld ?_ ?_
          rotate_left
          ·
           rintro w' ⟨s0, s1, s2, s3, s4, s5, s6, s7, s8, s9, s10, s11, s12, s13, s14, s15, s16, s17, s18, s19, s20⟩
           go_simp
           with_reducible rfl
          rotate_left
          ·
           simp only [Act.put, List.setIfInBounds_toArray, List.set_cons_zero, List.set_cons_succ, i64_w, i32_w]
           rfl
          refine pure_ (i := 11) (N := some 112) (v := ?_) (a' := ?_) #[true, true, true, true, true, true, true, true, true, true, true, true, false, false, false, false, false] rfl rfl (any_of HT_.out (by kernel_rfl)) (fun _ _ _ h => h) (Or.inl ⟨by rfl, ?_⟩) ?_ ?_
          rotate_left
          ·
           intro w'
           go_simp
           with_reducible rfl
          rotate_left
          ·
           simp only [Act.put, List.setIfInBounds_toArray, List.set_cons_zero, List.set_cons_succ, i64_w, i32_w]
           rfl
          refine take_ (i := 12) (N := some 113) (v := ?_) (a' := ?_) #[true, true, true, true, true, true, true, true, true, true, true, true, true, false, false, false, false] rfl rfl (take_ofW HT_.out HW_.out (by kernel_rfl)) (fun _ _ _ h => h) (Or.inl ⟨by rfl, ?_⟩) hHeld ?_ ?_
          rotate_left
          ·
           rintro w' ⟨s0, s1, s2, s3, s4, s5, s6, s7, s8, s9, s10, s11, s12, s13, s14, s15, s16, s17, s18, s19, s20⟩
           go_simp
           with_reducible rfl
          rotate_left
          ·
           simp only [Act.put, List.setIfInBounds_toArray, List.set_cons_zero, List.set_cons_succ, i64_w, i32_w]
           rfl
          refine one_ (i := 13) (N := some 114) #[true, true, true, true, true, true, true, true, true, true, true, true, true, true, false, false, false] rfl rfl (one_of HT_.out (by kernel_rfl)) (by decide) (fun K hK => ?_)
          refine goes_ Tryz.func30 (by kernel_rfl) rfl #[.agg #[.int .i64 t276, .string t277, .int .i64 t278, .int .i64 t279, .int .i64 t280, .slice Ao77 t281.length co77, .int .i64 t284], .agg #[.int .i64 ((rd_T63 l0_5 x4_1).f0), .string ((rd_T63 l0_5 x4_1).f1), .int .i64 ((rd_T63 l0_5 x4_1).f2), .int .i64 ((rd_T63 l0_5 x4_1).f3), .int .i64 ((rd_T63 l0_5 x4_1).f4), .slice A288_5 ((rd_T63 l0_5 x4_1).f5).length c288_5, .int .i64 ((rd_T63 l0_5 x4_1).f6)]] (by rfl) rfl rfl (by (try simp only [List.map_toArray, List.map_cons, List.map_nil]); first | done | rfl | (simp only [List.length_drop, List.length_take]; rfl)) ?_
          with_reducible refine (thresherref0_EqJob.calls kj41 t276 t277 t278 t279 t280 _ _ t281 t284 ((rd_T63 l0_5 x4_1).f0) ((rd_T63 l0_5 x4_1).f1) ((rd_T63 l0_5 x4_1).f2) ((rd_T63 l0_5 x4_1).f3) ((rd_T63 l0_5 x4_1).f4) _ _ ((rd_T63 l0_5 x4_1).f5) ((rd_T63 l0_5 x4_1).f6) false _ ?side1 ?side2 ?side3 ?side4 A63.out).mono ?_
          (case side1 => repeat (first | exact (Kd.R_reads' HO283.out).2.2 | (with_reducible refine Kd.C_alloc ?_ _) | (with_reducible refine Kd.C_drewN ?_ _) | (with_reducible refine Kd.C_drew ?_)))
          (case side2 => exact (Kd.R_reads' HO283.out).2.1)
          (case side3 => repeat (first | exact (Kd.C_below HR288_5.out (by repeat (first | (with_reducible first | exact HB.out | apply below_alloc | apply pw_below_drewN | apply below_drew1 | refine below_setA ?_ ‹_›) | exact HB.out))) | (with_reducible refine Kd.C_alloc ?_ _) | (with_reducible refine Kd.C_drewN ?_ _) | (with_reducible refine Kd.C_drew ?_)))
          (case side4 => exact HC288_5.out)
          rintro e w80 ⟨rfl, hb⟩
          refine ⟨_, rfl, ?_⟩
          have n0_ := Aside0.mk (Kd.R_below (by (with_reducible repeat (first | apply Kd.R_alloc | apply Kd.R_drewN | apply Kd.R_drew)); exact HO_3.out) hb)
          have n1_ := Aside0.mk (Kd.R_below (by (with_reducible repeat (first | apply Kd.R_alloc | apply Kd.R_drewN | apply Kd.R_drew)); exact HO283.out) hb)
          have n2_ := Aside0.mk (blk_below (blk_up BK251.out) hb)
          have n3_ := Aside0.mk (blk_below (blk_up BK286.out) hb)
          have n4_ := Aside0.mk (below_step (by repeat (first | (with_reducible first | exact HB.out | apply below_alloc | apply pw_below_drewN | apply below_drew1 | refine below_setA ?_ ‹_›) | exact HB.out)) hb)
          clear HO_3; clear HO283; clear BK251; clear BK286; clear HB; have HO_3 := n0_; have HO283 := n1_; have BK251 := n2_; have BK286 := n3_; have HB := n4_; clear n0_ n1_ n2_ n3_ n4_
          (try clear hb)
          (try clear hb2)
          (try clear hk)
          (try clear hi)
          refine hK.out _ _ ⟨(blk_cell BK286.out 0).trans rfl, (blk_cell BK286.out 1).trans rfl, (blk_cell BK286.out 2).trans rfl, (blk_cell BK286.out 3).trans rfl, (blk_cell BK286.out 4).trans rfl, (blk_cell BK286.out 5).trans rfl, (blk_cell BK286.out 6).trans rfl, (blk_cell BK251.out 0).trans rfl, (blk_cell BK251.out 1).trans rfl, (blk_cell BK251.out 2).trans rfl, (blk_cell BK251.out 3).trans rfl, (blk_cell BK251.out 4).trans rfl, (blk_cell BK251.out 5).trans rfl, (blk_cell BK251.out 6).trans rfl, ((HB.out.cell (World.block_lt_of_cell? w _ hw288_0)).trans hw288_0), ((HB.out.cell (World.block_lt_of_cell? w _ hw288_1)).trans hw288_1), ((HB.out.cell (World.block_lt_of_cell? w _ hw288_2)).trans hw288_2), ((HB.out.cell (World.block_lt_of_cell? w _ hw288_3)).trans hw288_3), ((HB.out.cell (World.block_lt_of_cell? w _ hw288_4)).trans hw288_4), ((HB.out.cell (World.block_lt_of_cell? w _ hw288_5)).trans hw288_5), ((HB.out.cell (World.block_lt_of_cell? w _ hw288_6)).trans hw288_6)⟩ (fun hHeld => ?_)
          clear hK K
          refine norm_ (a' := ?_) ?_ ?_
          rotate_left
          ·
           show Act.put _ (some 114) _ = _
           simp only [Act.put, List.setIfInBounds_toArray, List.set_cons_zero, List.set_cons_succ, i64_w, i32_w]
           rfl
          refine pure_ (i := 14) (N := some 115) (v := ?_) (a' := ?_) #[true, true, true, true, true, true, true, true, true, true, true, true, true, true, true, false, false] rfl rfl (any_of HT_.out (by kernel_rfl)) (fun _ _ _ h => h) (Or.inl ⟨by rfl, ?_⟩) ?_ ?_
          rotate_left
          ·
           intro w'
           go_simp
           with_reducible rfl
          rotate_left
          ·
           simp only [Act.put, List.setIfInBounds_toArray, List.set_cons_zero, List.set_cons_succ, i64_w, i32_w]
           rfl
          refine pure_ (i := 15) (N := some 116) (v := ?_) (a' := ?_) #[true, true, true, true, true, true, true, true, true, true, true, true, true, true, true, true, false] rfl rfl (any_of HT_.out (by kernel_rfl)) (fun _ _ _ h => h) (Or.inl ⟨by rfl, ?_⟩) ?_ ?_
          rotate_left
          ·
           intro w'
           go_simp
           with_reducible rfl
          rotate_left
          ·
           simp only [Act.put, List.setIfInBounds_toArray, List.set_cons_zero, List.set_cons_succ, i64_w, i32_w]
           rfl
          refine pure_ (i := 16) (N := some 117) (v := ?_) (a' := ?_) #[true, true, true, true, true, true, true, true, true, true, true, true, true, true, true, true, true] rfl rfl (any_of HT_.out (by kernel_rfl)) (fun _ _ _ h => h) (Or.inl ⟨by rfl, ?_⟩) ?_ ?_
          rotate_left
          ·
           intro w'
           go_simp
           with_reducible rfl
          rotate_left
          ·
           simp only [Act.put, List.setIfInBounds_toArray, List.set_cons_zero, List.set_cons_succ, i64_w, i32_w]
           rfl
          refine done_ (done_of HT_.out (by kernel_rfl)) ?_
          try go_wp2
          go_ret
          exact ⟨by first | rfl | (simp [errW_none, errW_some] <;> rfl) | (simp [*, errW_none, errW_some] <;> rfl), by repeat (first | (with_reducible first | exact HB.out | apply below_alloc | apply pw_below_drewN | apply below_drew1 | refine below_setA ?_ ‹_›) | exact HB.out)⟩
         subst c64
         have H1 : (thresherlaw14_JobBytes.l0 kj41 x3_21 (wrap64 (x4_1 + 1)) a0_0 l0_1 a0_2 a0_3 l0_4 l0_5 a0_6) = some r := by rw [if_pos rfl] at H; exact H
         clear H; have H := H1; clear H1
         have H' := Aside0.mk H
         clear H
         try go_wp2_with (first | ((with_reducible refine gate_callee (f := 29) rfl ?_); refine goesL_ (some 98) rfl rfl Tryz.func29 (by kernel_rfl) rfl #[.string t257] rfl (by (try simp only [List.map_toArray, List.map_cons, List.map_nil]); first | done | rfl | (simp only [List.length_drop, List.length_take]; rfl)) ?_; (with_reducible refine (job_Take.calls kj41 t257 t276 t277 t278 t279 t280 t281 t284 t285 _ A57.out).mono ?_); rintro e w65 ⟨v282, rfl, ho0, hb⟩; refine ⟨_, rfl, ?_⟩; have n0_ := Aside0.mk (Kd.R_below (by (with_reducible repeat (first | apply Kd.R_alloc | apply Kd.R_drewN | apply Kd.R_drew)); exact HO_3.out) hb); have n1_ := Aside0.mk (Kd.R_lower ho0 (below_size (by repeat (first | (with_reducible first | exact HB.out | apply below_alloc | apply pw_below_drewN | apply below_drew1 | refine below_setA ?_ ‹_›) | exact HB.out)))); have n2_ := Aside0.mk (blk_below (blk_up BK251.out) hb); have n3_ := Aside0.mk (below_step (by repeat (first | (with_reducible first | exact HB.out | apply below_alloc | apply pw_below_drewN | apply below_drew1 | refine below_setA ?_ ‹_›) | exact HB.out)) hb); clear HO_3; clear BK251; clear HB; have HO_3 := n0_; have HO283 := n1_; have BK251 := n2_; have HB := n3_; clear n0_ n1_ n2_ n3_; (try clear hb); (try clear hb2); (try clear hk); (try clear hi); (try clear ho0)) | ((with_reducible refine gate_dst (N := 10) rfl ?_); refine box_event ?hg (N := 10) ?hd (cs := #[.int .i64 0, .string (⟨#[]⟩ : ByteArray), .int .i64 0, .int .i64 0, .int .i64 0, .slice none 0 0, .int .i64 0]) (t := 63) ?hr ?_; (case hd => rfl); (case hg => rfl); (case hr => first | (go_simp; done) | (go_simp; rfl)); intro gb286 hg w66 hbox hb; have n0_ := Aside0.mk (Kd.R_below (by (with_reducible repeat (first | apply Kd.R_alloc | apply Kd.R_drewN | apply Kd.R_drew)); exact HO_3.out) hb); have n1_ := Aside0.mk (Kd.R_below (by (with_reducible repeat (first | apply Kd.R_alloc | apply Kd.R_drewN | apply Kd.R_drew)); exact HO283.out) hb); have n2_ := Aside0.mk (blk_below (blk_up BK251.out) hb); have n3_ := Aside0.mk (below_step (by repeat (first | (with_reducible first | exact HB.out | apply below_alloc | apply pw_below_drewN | apply below_drew1 | refine below_setA ?_ ‹_›) | exact HB.out)) hb); have n4_ := Aside0.mk (hbox); have n5_ := Aside0.mk ((by rw [hg]; exact (below_size (by repeat (first | (with_reducible first | exact HB.out | apply below_alloc | apply pw_below_drewN | apply below_drew1 | refine below_setA ?_ ‹_›) | exact HB.out))) : w.heap.size ≤ gb286)); have n6_ := n5_; have n7_ := Aside0.mk ((by rw [hg]; exact Nat.ne_of_lt (blk_lt (blk_up BK251.out)) : gb251 ≠ gb286)); have n8_ := Aside0.mk ((by rw [hg]; exact Nat.ne_of_gt (blk_lt (blk_up BK251.out)) : gb286 ≠ gb251)); clear HO_3; clear HO283; clear BK251; clear HB; have HO_3 := n0_; have HO283 := n1_; have BK251 := n2_; have HB := n3_; have BK286 := n4_; have GW286 := n5_; have GE286 := n6_; have NB251_286 := n7_; have NB286_251 := n8_; clear n0_ n1_ n2_ n3_ n4_ n5_ n6_ n7_ n8_; clear hb hbox hg; have hnb67 := NB286_251.out; have hnc67 := NB251_286.out; obtain ⟨hcz68_0, hcz68_1, hcz68_2, hcz68_3, hcz68_4, hcz68_5, hcz68_6, hfz68_0, hfz68_1, hfz68_2, hfz68_3, hfz68_4, hfz68_5, hfz68_6⟩ := blkall_7 BK286.out; obtain ⟨Ao69, co69, eo69⟩ := Kd.R_slice HO283.out; subst eo69))
         have n0_ : Aside0 (Kd.R Kd.string 9 (((((((w66.setCell ⟨gb286, 0, none⟩ (.int .i64 t276)).setCell ⟨gb286, 1, none⟩ (.string t277)).setCell ⟨gb286, 2, none⟩ (.int .i64 t278)).setCell ⟨gb286, 3, none⟩ (.int .i64 t279)).setCell ⟨gb286, 4, none⟩ (.int .i64 t280)).setCell ⟨gb286, 5, none⟩ (.slice Ao69 t281.length co69)).setCell ⟨gb286, 6, none⟩ (.int .i64 t284)) w.heap.size (fun _ => True) u3 x3_21) := ⟨by (with_reducible repeat (first | apply Kd.R_alloc | apply Kd.R_drewN | apply Kd.R_drew)); exact Kd.R_mono (Kd.R_far (p := ⟨gb286, 6, none⟩) (Kd.R_far (p := ⟨gb286, 5, none⟩) (Kd.R_far (p := ⟨gb286, 4, none⟩) (Kd.R_far (p := ⟨gb286, 3, none⟩) (Kd.R_far (p := ⟨gb286, 2, none⟩) (Kd.R_far (p := ⟨gb286, 1, none⟩) (Kd.R_far (p := ⟨gb286, 0, none⟩) (Kd.R_types HO_3.out BK286.out (by decide)) (fun _ hk => hk.2) (.int .i64 t276)) (fun _ hk => hk.2) (.string t277)) (fun _ hk => hk.2) (.int .i64 t278)) (fun _ hk => hk.2) (.int .i64 t279)) (fun _ hk => hk.2) (.int .i64 t280)) (fun _ hk => hk.2) (.slice Ao69 t281.length co69)) (fun _ hk => hk.2) (.int .i64 t284)) (fun _ hk => trivial)⟩
         have n1_ : Aside0 (Kd.R (Kd.int .i64) 3 (((((((w66.setCell ⟨gb286, 0, none⟩ (.int .i64 t276)).setCell ⟨gb286, 1, none⟩ (.string t277)).setCell ⟨gb286, 2, none⟩ (.int .i64 t278)).setCell ⟨gb286, 3, none⟩ (.int .i64 t279)).setCell ⟨gb286, 4, none⟩ (.int .i64 t280)).setCell ⟨gb286, 5, none⟩ (.slice Ao69 t281.length co69)).setCell ⟨gb286, 6, none⟩ (.int .i64 t284)) w.heap.size (fun _ => True) (.slice Ao69 t281.length co69) t281) := ⟨by (with_reducible repeat (first | apply Kd.R_alloc | apply Kd.R_drewN | apply Kd.R_drew)); exact Kd.R_mono (Kd.R_far (p := ⟨gb286, 6, none⟩) (Kd.R_far (p := ⟨gb286, 5, none⟩) (Kd.R_far (p := ⟨gb286, 4, none⟩) (Kd.R_far (p := ⟨gb286, 3, none⟩) (Kd.R_far (p := ⟨gb286, 2, none⟩) (Kd.R_far (p := ⟨gb286, 1, none⟩) (Kd.R_far (p := ⟨gb286, 0, none⟩) (Kd.R_types HO283.out BK286.out (by decide)) (fun _ hk => hk.2) (.int .i64 t276)) (fun _ hk => hk.2) (.string t277)) (fun _ hk => hk.2) (.int .i64 t278)) (fun _ hk => hk.2) (.int .i64 t279)) (fun _ hk => hk.2) (.int .i64 t280)) (fun _ hk => hk.2) (.slice Ao69 t281.length co69)) (fun _ hk => hk.2) (.int .i64 t284)) (fun _ hk => trivial)⟩
         have n2_ : Aside0 ((((((((w66.setCell ⟨gb286, 0, none⟩ (.int .i64 t276)).setCell ⟨gb286, 1, none⟩ (.string t277)).setCell ⟨gb286, 2, none⟩ (.int .i64 t278)).setCell ⟨gb286, 3, none⟩ (.int .i64 t279)).setCell ⟨gb286, 4, none⟩ (.int .i64 t280)).setCell ⟨gb286, 5, none⟩ (.slice Ao69 t281.length co69)).setCell ⟨gb286, 6, none⟩ (.int .i64 t284)).heap[gb251]? = some (.cells #[.int .i64 a0_0, .slice A0_1 l0_1.length c0_1, .int .i64 a0_2, .int .i64 a0_3, .slice A0_4 l0_4.length c0_4, .slice (some ad256) l0_5.length c0_5, .string a0_6] 57 (0, 0))) := ⟨by (with_reducible repeat (first | refine blk_drewN ?_ _ | refine blk_drew ?_ | refine blk_alloc ?_ _ | refine blk_far ?_ NB251_286.out _)); exact BK251.out⟩
         have n3_ : Aside0 ((((((((w66.setCell ⟨gb286, 0, none⟩ (.int .i64 t276)).setCell ⟨gb286, 1, none⟩ (.string t277)).setCell ⟨gb286, 2, none⟩ (.int .i64 t278)).setCell ⟨gb286, 3, none⟩ (.int .i64 t279)).setCell ⟨gb286, 4, none⟩ (.int .i64 t280)).setCell ⟨gb286, 5, none⟩ (.slice Ao69 t281.length co69)).setCell ⟨gb286, 6, none⟩ (.int .i64 t284)).heap[gb286]? = some (.cells #[.int .i64 t276, .string t277, .int .i64 t278, .int .i64 t279, .int .i64 t280, .slice Ao69 t281.length co69, .int .i64 t284] 63 (0, 0))) := ⟨by refine blk_up ?_; refine blk_put (cs := #[.int .i64 t276, .string t277, .int .i64 t278, .int .i64 t279, .int .i64 t280, .slice Ao69 t281.length co69, .int .i64 0]) ?_ 6 _ rfl; refine blk_up ?_; refine blk_put (cs := #[.int .i64 t276, .string t277, .int .i64 t278, .int .i64 t279, .int .i64 t280, .slice none 0 0, .int .i64 0]) ?_ 5 _ rfl; refine blk_up ?_; refine blk_put (cs := #[.int .i64 t276, .string t277, .int .i64 t278, .int .i64 t279, .int .i64 0, .slice none 0 0, .int .i64 0]) ?_ 4 _ rfl; refine blk_up ?_; refine blk_put (cs := #[.int .i64 t276, .string t277, .int .i64 t278, .int .i64 0, .int .i64 0, .slice none 0 0, .int .i64 0]) ?_ 3 _ rfl; refine blk_up ?_; refine blk_put (cs := #[.int .i64 t276, .string t277, .int .i64 0, .int .i64 0, .int .i64 0, .slice none 0 0, .int .i64 0]) ?_ 2 _ rfl; refine blk_up ?_; refine blk_put (cs := #[.int .i64 t276, .string (⟨#[]⟩ : ByteArray), .int .i64 0, .int .i64 0, .int .i64 0, .slice none 0 0, .int .i64 0]) ?_ 1 _ rfl; refine blk_up ?_; refine blk_put (cs := #[.int .i64 0, .string (⟨#[]⟩ : ByteArray), .int .i64 0, .int .i64 0, .int .i64 0, .slice none 0 0, .int .i64 0]) ?_ 0 _ rfl; refine blk_up ?_; exact BK286.out⟩
         have n4_ : Aside0 (Below w.heap.size w (((((((w66.setCell ⟨gb286, 0, none⟩ (.int .i64 t276)).setCell ⟨gb286, 1, none⟩ (.string t277)).setCell ⟨gb286, 2, none⟩ (.int .i64 t278)).setCell ⟨gb286, 3, none⟩ (.int .i64 t279)).setCell ⟨gb286, 4, none⟩ (.int .i64 t280)).setCell ⟨gb286, 5, none⟩ (.slice Ao69 t281.length co69)).setCell ⟨gb286, 6, none⟩ (.int .i64 t284))) := ⟨by repeat (first | (with_reducible first | exact HB.out | apply below_alloc | apply pw_below_drewN | apply below_drew1 | refine below_setA ?_ ‹_›) | exact HB.out)⟩
         (try clear HO_3)
         (try clear HO283)
         (try clear BK251)
         (try clear BK286)
         (try clear HB)
         generalize (((((((w66.setCell ⟨gb286, 0, none⟩ (.int .i64 t276)).setCell ⟨gb286, 1, none⟩ (.string t277)).setCell ⟨gb286, 2, none⟩ (.int .i64 t278)).setCell ⟨gb286, 3, none⟩ (.int .i64 t279)).setCell ⟨gb286, 4, none⟩ (.int .i64 t280)).setCell ⟨gb286, 5, none⟩ (.slice Ao69 t281.length co69)).setCell ⟨gb286, 6, none⟩ (.int .i64 t284)) = w70 at n0_ n1_ n2_ n3_ n4_ ⊢
         have HO_3 := n0_; have HO283 := n1_; have BK251 := n2_; have BK286 := n3_; have HB := n4_; clear n0_ n1_ n2_ n3_ n4_
         have n0_ := Aside0.mk (Kd.R_drew HO_3.out)
         have n1_ := Aside0.mk (Kd.R_drew HO283.out)
         have n2_ := Aside0.mk (blk_drew BK251.out)
         have n3_ := Aside0.mk (blk_drew BK286.out)
         have n4_ := Aside0.mk (below_drew1 HB.out)
         clear HO_3; clear HO283; clear BK251; clear BK286; clear HB; have HO_3 := n0_; have HO283 := n1_; have BK251 := n2_; have BK286 := n3_; have HB := n4_; clear n0_ n1_ n2_ n3_ n4_
         have p288 : 0 ≤ (x4_1 : Int) := of_decide_eq_true (by first | (with_reducible assumption) | assumption)
         have q288 : x4_1 < (l0_5.length : Int) := of_decide_eq_true (by first | (with_reducible assumption) | assumption)
         obtain ⟨ad288, A288_5, c288_5, e288, hx288_0, hx288_1, hx288_2, hx288_3, hx288_4, hx288_5, hx288_6, hl288_5, hi288_5⟩ := at_T63 HR0_5.out x4_1 p288 q288
         have hw288_6 := hx288_6; have hw288_5 := hx288_5; have hw288_4 := hx288_4; have hw288_3 := hx288_3; have hw288_2 := hx288_2; have hw288_1 := hx288_1; have hw288_0 := hx288_0
         obtain rfl : ad256 = ad288 := (by injection e288)
         replace hx288_0 := (HB.out.cell (World.block_lt_of_cell? w _ hx288_0)).trans hx288_0
         replace hx288_1 := (HB.out.cell (World.block_lt_of_cell? w _ hx288_1)).trans hx288_1
         replace hx288_2 := (HB.out.cell (World.block_lt_of_cell? w _ hx288_2)).trans hx288_2
         replace hx288_3 := (HB.out.cell (World.block_lt_of_cell? w _ hx288_3)).trans hx288_3
         replace hx288_4 := (HB.out.cell (World.block_lt_of_cell? w _ hx288_4)).trans hx288_4
         replace hx288_5 := (HB.out.cell (World.block_lt_of_cell? w _ hx288_5)).trans hx288_5
         replace hx288_6 := (HB.out.cell (World.block_lt_of_cell? w _ hx288_6)).trans hx288_6
         have HR288_5 := Aside0.mk hi288_5; have HC288_5 := Aside0.mk hl288_5; clear hi288_5 hl288_5
         replace p288 := eq_true p288
         replace q288 := eq_true q288
         refine start_ (n := 17) (S := fun w' => w'.cell? ⟨gb286, 0, none⟩ = some (.int .i64 t276) ∧ w'.cell? ⟨gb286, 1, none⟩ = some (.string t277) ∧ w'.cell? ⟨gb286, 2, none⟩ = some (.int .i64 t278) ∧ w'.cell? ⟨gb286, 3, none⟩ = some (.int .i64 t279) ∧ w'.cell? ⟨gb286, 4, none⟩ = some (.int .i64 t280) ∧ w'.cell? ⟨gb286, 5, none⟩ = some (.slice Ao69 t281.length co69) ∧ w'.cell? ⟨gb286, 6, none⟩ = some (.int .i64 t284) ∧ w'.cell? ⟨gb251, 0, none⟩ = some (.int .i64 a0_0) ∧ w'.cell? ⟨gb251, 1, none⟩ = some (.slice A0_1 l0_1.length c0_1) ∧ w'.cell? ⟨gb251, 2, none⟩ = some (.int .i64 a0_2) ∧ w'.cell? ⟨gb251, 3, none⟩ = some (.int .i64 a0_3) ∧ w'.cell? ⟨gb251, 4, none⟩ = some (.slice A0_4 l0_4.length c0_4) ∧ w'.cell? ⟨gb251, 5, none⟩ = some (.slice (some ad256) l0_5.length c0_5) ∧ w'.cell? ⟨gb251, 6, none⟩ = some (.string a0_6) ∧ w'.cell? (ad256.add ((x4_1).toNat * 7)) = some (.int .i64 ((rd_T63 l0_5 x4_1).f0)) ∧ w'.cell? ⟨(ad256.add ((x4_1).toNat * 7)).block, (ad256.add ((x4_1).toNat * 7)).off + 1, none⟩ = some (.string ((rd_T63 l0_5 x4_1).f1)) ∧ w'.cell? ⟨(ad256.add ((x4_1).toNat * 7)).block, (ad256.add ((x4_1).toNat * 7)).off + 2, none⟩ = some (.int .i64 ((rd_T63 l0_5 x4_1).f2)) ∧ w'.cell? ⟨(ad256.add ((x4_1).toNat * 7)).block, (ad256.add ((x4_1).toNat * 7)).off + 3, none⟩ = some (.int .i64 ((rd_T63 l0_5 x4_1).f3)) ∧ w'.cell? ⟨(ad256.add ((x4_1).toNat * 7)).block, (ad256.add ((x4_1).toNat * 7)).off + 4, none⟩ = some (.int .i64 ((rd_T63 l0_5 x4_1).f4)) ∧ w'.cell? ⟨(ad256.add ((x4_1).toNat * 7)).block, (ad256.add ((x4_1).toNat * 7)).off + 5, none⟩ = some (.slice A288_5 ((rd_T63 l0_5 x4_1).f5).length c288_5) ∧ w'.cell? ⟨(ad256.add ((x4_1).toNat * 7)).block, (ad256.add ((x4_1).toNat * 7)).off + 6, none⟩ = some (.int .i64 ((rd_T63 l0_5 x4_1).f6))) (ds := []) #[false, false, false, false, false, false, false, false, false, false, false, false, false, false, false, false, false] (by kernel_rfl) rfl rfl ⟨(blk_cell BK286.out 0).trans rfl, (blk_cell BK286.out 1).trans rfl, (blk_cell BK286.out 2).trans rfl, (blk_cell BK286.out 3).trans rfl, (blk_cell BK286.out 4).trans rfl, (blk_cell BK286.out 5).trans rfl, (blk_cell BK286.out 6).trans rfl, (blk_cell BK251.out 0).trans rfl, (blk_cell BK251.out 1).trans rfl, (blk_cell BK251.out 2).trans rfl, (blk_cell BK251.out 3).trans rfl, (blk_cell BK251.out 4).trans rfl, (blk_cell BK251.out 5).trans rfl, (blk_cell BK251.out 6).trans rfl, ((HB.out.cell (World.block_lt_of_cell? w _ hw288_0)).trans hw288_0), ((HB.out.cell (World.block_lt_of_cell? w _ hw288_1)).trans hw288_1), ((HB.out.cell (World.block_lt_of_cell? w _ hw288_2)).trans hw288_2), ((HB.out.cell (World.block_lt_of_cell? w _ hw288_3)).trans hw288_3), ((HB.out.cell (World.block_lt_of_cell? w _ hw288_4)).trans hw288_4), ((HB.out.cell (World.block_lt_of_cell? w _ hw288_5)).trans hw288_5), ((HB.out.cell (World.block_lt_of_cell? w _ hw288_6)).trans hw288_6)⟩ (fun hHeld => ?_); refine with_tabW thresherlaw14_JobBytes.tab19 thresherlaw14_JobBytes.bits19 (fun HT_ HW_ => ?_)
         generalize w70.drew = w71 at HO_3 HO283 BK251 BK286 HB HR288_5 hx288_0 hx288_1 hx288_2 hx288_3 hx288_4 hx288_5 hx288_6 hHeld ⊢
         refine pure_ (i := 0) (N := some 101) (v := ?_) (a' := ?_) #[true, false, false, false, false, false, false, false, false, false, false, false, false, false, false, false, false] rfl rfl (any_of HT_.out (by kernel_rfl)) (fun _ _ _ h => h) (Or.inl ⟨by rfl, ?_⟩) ?_ ?_
         rotate_left
         ·
          intro w'
          go_simp
          with_reducible rfl
         rotate_left
         ·
          simp only [Act.put, List.setIfInBounds_toArray, List.set_cons_zero, List.set_cons_succ, i64_w, i32_w]
          rfl
         refine pure_ (i := 1) (N := some 102) (v := ?_) (a' := ?_) #[true, true, false, false, false, false, false, false, false, false, false, false, false, false, false, false, false] rfl rfl (any_of HT_.out (by kernel_rfl)) (fun _ _ _ h => h) (Or.inl ⟨by rfl, ?_⟩) ?_ ?_
         rotate_left
         ·
          intro w'
          go_simp
          with_reducible rfl
         rotate_left
         ·
          simp only [Act.put, List.setIfInBounds_toArray, List.set_cons_zero, List.set_cons_succ, i64_w, i32_w]
          rfl
         refine pure_ (i := 2) (N := some 103) (v := ?_) (a' := ?_) #[true, true, true, false, false, false, false, false, false, false, false, false, false, false, false, false, false] rfl rfl (any_of HT_.out (by kernel_rfl)) (fun _ _ _ h => h) (Or.inl ⟨by rfl, ?_⟩) ?_ ?_
         rotate_left
         ·
          intro w'
          go_simp
          with_reducible rfl
         rotate_left
         ·
          simp only [Act.put, List.setIfInBounds_toArray, List.set_cons_zero, List.set_cons_succ, i64_w, i32_w]
          rfl
         refine pure_ (i := 3) (N := some 104) (v := ?_) (a' := ?_) #[true, true, true, true, false, false, false, false, false, false, false, false, false, false, false, false, false] rfl rfl (any_of HT_.out (by kernel_rfl)) (fun _ _ _ h => h) (Or.inl ⟨by rfl, ?_⟩) ?_ ?_
         rotate_left
         ·
          intro w'
          go_simp
          with_reducible rfl
         rotate_left
         ·
          simp only [Act.put, List.setIfInBounds_toArray, List.set_cons_zero, List.set_cons_succ, i64_w, i32_w]
          rfl
         refine one_ (i := 4) (N := some 105) #[true, true, true, true, true, false, false, false, false, false, false, false, false, false, false, false, false] rfl rfl (one_of HT_.out (by kernel_rfl)) (by decide) (fun K hK => ?_)
         refine goes_ Tryz.func27 (by kernel_rfl) rfl #[.int .i64 t285] (by rfl) rfl rfl (by (try simp only [List.map_toArray, List.map_cons, List.map_nil]); first | done | rfl | (simp only [List.length_drop, List.length_take]; rfl)) ?_
         with_reducible refine (thresherlaw14_num.calls t285 t287 _ A59.out).mono ?_
         rintro e w' ⟨rfl, ⟨nd, rfl⟩⟩
         refine ⟨_, rfl, ?_⟩
         refine hK.out _ _ ⟨(blk_cell BK286.out 0).trans rfl, (blk_cell BK286.out 1).trans rfl, (blk_cell BK286.out 2).trans rfl, (blk_cell BK286.out 3).trans rfl, (blk_cell BK286.out 4).trans rfl, (blk_cell BK286.out 5).trans rfl, (blk_cell BK286.out 6).trans rfl, (blk_cell BK251.out 0).trans rfl, (blk_cell BK251.out 1).trans rfl, (blk_cell BK251.out 2).trans rfl, (blk_cell BK251.out 3).trans rfl, (blk_cell BK251.out 4).trans rfl, (blk_cell BK251.out 5).trans rfl, (blk_cell BK251.out 6).trans rfl, ((HB.out.cell (World.block_lt_of_cell? w _ hw288_0)).trans hw288_0), ((HB.out.cell (World.block_lt_of_cell? w _ hw288_1)).trans hw288_1), ((HB.out.cell (World.block_lt_of_cell? w _ hw288_2)).trans hw288_2), ((HB.out.cell (World.block_lt_of_cell? w _ hw288_3)).trans hw288_3), ((HB.out.cell (World.block_lt_of_cell? w _ hw288_4)).trans hw288_4), ((HB.out.cell (World.block_lt_of_cell? w _ hw288_5)).trans hw288_5), ((HB.out.cell (World.block_lt_of_cell? w _ hw288_6)).trans hw288_6)⟩ (fun hHeld => ?_)
         clear hK K
         refine norm_ (a' := ?_) ?_ ?_
         rotate_left
         ·
          show Act.put _ (some 105) _ = _
          simp only [Act.put, List.setIfInBounds_toArray, List.set_cons_zero, List.set_cons_succ, i64_w, i32_w]
          rfl
         refine pure_ (i := 5) (N := some 106) (v := ?_) (a' := ?_) #[true, true, true, true, true, true, false, false, false, false, false, false, false, false, false, false, false] rfl rfl (any_of HT_.out (by kernel_rfl)) (fun _ _ _ h => h) (Or.inl ⟨by rfl, ?_⟩) ?_ ?_
         rotate_left
         ·
          intro w'
          go_simp
          with_reducible rfl
         rotate_left
         ·
          simp only [Act.put, List.setIfInBounds_toArray, List.set_cons_zero, List.set_cons_succ, i64_w, i32_w]
          rfl
         refine pure_ (i := 6) (N := some 107) (v := ?_) (a' := ?_) #[true, true, true, true, true, true, true, false, false, false, false, false, false, false, false, false, false] rfl rfl (any_of HT_.out (by kernel_rfl)) (fun _ _ _ h => h) (Or.inl ⟨by rfl, ?_⟩) ?_ ?_
         rotate_left
         ·
          intro w'
          go_simp
          with_reducible rfl
         rotate_left
         ·
          simp only [Act.put, List.setIfInBounds_toArray, List.set_cons_zero, List.set_cons_succ, i64_w, i32_w]
          rfl
         refine pure_ (i := 8) (N := some 109) (v := ?_) (a' := ?_) #[true, true, true, true, true, true, true, false, true, false, false, false, false, false, false, false, false] rfl rfl (any_of HT_.out (by kernel_rfl)) (fun _ _ _ h => h) (Or.inl ⟨by rfl, ?_⟩) ?_ ?_
         rotate_left
         ·
          intro w'
          go_simp
          with_reducible rfl
         rotate_left
         ·
          simp only [Act.put, List.setIfInBounds_toArray, List.set_cons_zero, List.set_cons_succ, i64_w, i32_w]
          rfl
         refine pure_ (i := 10) (N := some 111) (v := ?_) (a' := ?_) #[true, true, true, true, true, true, true, false, true, false, true, false, false, false, false, false, false] rfl rfl (any_of HT_.out (by kernel_rfl)) (fun _ _ _ h => h) (Or.inl ⟨by rfl, ?_⟩) ?_ ?_
         rotate_left
         ·
          intro w'
          go_simp
          with_reducible rfl
         rotate_left
         ·
          simp only [Act.put, List.setIfInBounds_toArray, List.set_cons_zero, List.set_cons_succ, i64_w, i32_w]
          rfl
         refine take_ (i := 7) (N := some 108) (v := ?_) (a' := ?_) #[true, true, true, true, true, true, true, true, true, false, true, false, false, false, false, false, false] rfl rfl (take_ofW HT_.out HW_.out (by kernel_rfl)) (fun _ _ _ h => h) (Or.inl ⟨by rfl, ?_⟩) hHeld ?_ ?_
         rotate_left
         ·
          rintro w' ⟨s0, s1, s2, s3, s4, s5, s6, s7, s8, s9, s10, s11, s12, s13, s14, s15, s16, s17, s18, s19, s20⟩
          go_simp
          with_reducible rfl
         rotate_left
         ·
          simp only [Act.put, List.setIfInBounds_toArray, List.set_cons_zero, List.set_cons_succ, i64_w, i32_w]
          rfl
         refine take_ (i := 9) (N := some 110) (v := ?_) (a' := ?_) #[true, true, true, true, true, true, true, true, true, true, true, false, false, false, false, false, false] rfl rfl (take_ofW HT_.out HW_.out (by kernel_rfl)) (fun _ _ _ h => h) (Or.inl ⟨by rfl, ?_⟩) hHeld ?_ ?_
         rotate_left
         ·
          rintro w' ⟨s0, s1, s2, s3, s4, s5, s6, s7, s8, s9, s10, s11, s12, s13, s14, s15, s16, s17, s18, s19, s20⟩
          go_simp
          with_reducible rfl
         rotate_left
         ·
          simp only [Act.put, List.setIfInBounds_toArray, List.set_cons_zero, List.set_cons_succ, i64_w, i32_w]
          rfl
         refine pure_ (i := 11) (N := some 112) (v := ?_) (a' := ?_) #[true, true, true, true, true, true, true, true, true, true, true, true, false, false, false, false, false] rfl rfl (any_of HT_.out (by kernel_rfl)) (fun _ _ _ h => h) (Or.inl ⟨by rfl, ?_⟩) ?_ ?_
         rotate_left
         ·
          intro w'
          go_simp
          with_reducible rfl
         rotate_left
         ·
          simp only [Act.put, List.setIfInBounds_toArray, List.set_cons_zero, List.set_cons_succ, i64_w, i32_w]
          rfl
         refine take_ (i := 12) (N := some 113) (v := ?_) (a' := ?_) #[true, true, true, true, true, true, true, true, true, true, true, true, true, false, false, false, false] rfl rfl (take_ofW HT_.out HW_.out (by kernel_rfl)) (fun _ _ _ h => h) (Or.inl ⟨by rfl, ?_⟩) hHeld ?_ ?_
         rotate_left
         ·
          rintro w' ⟨s0, s1, s2, s3, s4, s5, s6, s7, s8, s9, s10, s11, s12, s13, s14, s15, s16, s17, s18, s19, s20⟩
          go_simp
          with_reducible rfl
         rotate_left
         ·
          simp only [Act.put, List.setIfInBounds_toArray, List.set_cons_zero, List.set_cons_succ, i64_w, i32_w]
          rfl
         refine one_ (i := 13) (N := some 114) #[true, true, true, true, true, true, true, true, true, true, true, true, true, true, false, false, false] rfl rfl (one_of HT_.out (by kernel_rfl)) (by decide) (fun K hK => ?_)
         refine goes_ Tryz.func30 (by kernel_rfl) rfl #[.agg #[.int .i64 t276, .string t277, .int .i64 t278, .int .i64 t279, .int .i64 t280, .slice Ao69 t281.length co69, .int .i64 t284], .agg #[.int .i64 ((rd_T63 l0_5 x4_1).f0), .string ((rd_T63 l0_5 x4_1).f1), .int .i64 ((rd_T63 l0_5 x4_1).f2), .int .i64 ((rd_T63 l0_5 x4_1).f3), .int .i64 ((rd_T63 l0_5 x4_1).f4), .slice A288_5 ((rd_T63 l0_5 x4_1).f5).length c288_5, .int .i64 ((rd_T63 l0_5 x4_1).f6)]] (by rfl) rfl rfl (by (try simp only [List.map_toArray, List.map_cons, List.map_nil]); first | done | rfl | (simp only [List.length_drop, List.length_take]; rfl)) ?_
         with_reducible refine (thresherref0_EqJob.calls kj41 t276 t277 t278 t279 t280 _ _ t281 t284 ((rd_T63 l0_5 x4_1).f0) ((rd_T63 l0_5 x4_1).f1) ((rd_T63 l0_5 x4_1).f2) ((rd_T63 l0_5 x4_1).f3) ((rd_T63 l0_5 x4_1).f4) _ _ ((rd_T63 l0_5 x4_1).f5) ((rd_T63 l0_5 x4_1).f6) true _ ?side1 ?side2 ?side3 ?side4 A63.out).mono ?_
         (case side1 => repeat (first | exact (Kd.R_reads' HO283.out).2.2 | (with_reducible refine Kd.C_alloc ?_ _) | (with_reducible refine Kd.C_drewN ?_ _) | (with_reducible refine Kd.C_drew ?_)))
         (case side2 => exact (Kd.R_reads' HO283.out).2.1)
         (case side3 => repeat (first | exact (Kd.C_below HR288_5.out (by repeat (first | (with_reducible first | exact HB.out | apply below_alloc | apply pw_below_drewN | apply below_drew1 | refine below_setA ?_ ‹_›) | exact HB.out))) | (with_reducible refine Kd.C_alloc ?_ _) | (with_reducible refine Kd.C_drewN ?_ _) | (with_reducible refine Kd.C_drew ?_)))
         (case side4 => exact HC288_5.out)
         rintro e w72 ⟨rfl, hb⟩
         refine ⟨_, rfl, ?_⟩
         have n0_ := Aside0.mk (Kd.R_below (by (with_reducible repeat (first | apply Kd.R_alloc | apply Kd.R_drewN | apply Kd.R_drew)); exact HO_3.out) hb)
         have n1_ := Aside0.mk (Kd.R_below (by (with_reducible repeat (first | apply Kd.R_alloc | apply Kd.R_drewN | apply Kd.R_drew)); exact HO283.out) hb)
         have n2_ := Aside0.mk (blk_below (blk_up BK251.out) hb)
         have n3_ := Aside0.mk (blk_below (blk_up BK286.out) hb)
         have n4_ := Aside0.mk (below_step (by repeat (first | (with_reducible first | exact HB.out | apply below_alloc | apply pw_below_drewN | apply below_drew1 | refine below_setA ?_ ‹_›) | exact HB.out)) hb)
         clear HO_3; clear HO283; clear BK251; clear BK286; clear HB; have HO_3 := n0_; have HO283 := n1_; have BK251 := n2_; have BK286 := n3_; have HB := n4_; clear n0_ n1_ n2_ n3_ n4_
         (try clear hb)
         (try clear hb2)
         (try clear hk)
         (try clear hi)
         refine hK.out _ _ ⟨(blk_cell BK286.out 0).trans rfl, (blk_cell BK286.out 1).trans rfl, (blk_cell BK286.out 2).trans rfl, (blk_cell BK286.out 3).trans rfl, (blk_cell BK286.out 4).trans rfl, (blk_cell BK286.out 5).trans rfl, (blk_cell BK286.out 6).trans rfl, (blk_cell BK251.out 0).trans rfl, (blk_cell BK251.out 1).trans rfl, (blk_cell BK251.out 2).trans rfl, (blk_cell BK251.out 3).trans rfl, (blk_cell BK251.out 4).trans rfl, (blk_cell BK251.out 5).trans rfl, (blk_cell BK251.out 6).trans rfl, ((HB.out.cell (World.block_lt_of_cell? w _ hw288_0)).trans hw288_0), ((HB.out.cell (World.block_lt_of_cell? w _ hw288_1)).trans hw288_1), ((HB.out.cell (World.block_lt_of_cell? w _ hw288_2)).trans hw288_2), ((HB.out.cell (World.block_lt_of_cell? w _ hw288_3)).trans hw288_3), ((HB.out.cell (World.block_lt_of_cell? w _ hw288_4)).trans hw288_4), ((HB.out.cell (World.block_lt_of_cell? w _ hw288_5)).trans hw288_5), ((HB.out.cell (World.block_lt_of_cell? w _ hw288_6)).trans hw288_6)⟩ (fun hHeld => ?_)
         clear hK K
         refine norm_ (a' := ?_) ?_ ?_
         rotate_left
         ·
          show Act.put _ (some 114) _ = _
          simp only [Act.put, List.setIfInBounds_toArray, List.set_cons_zero, List.set_cons_succ, i64_w, i32_w]
          rfl
         refine pure_ (i := 14) (N := some 115) (v := ?_) (a' := ?_) #[true, true, true, true, true, true, true, true, true, true, true, true, true, true, true, false, false] rfl rfl (any_of HT_.out (by kernel_rfl)) (fun _ _ _ h => h) (Or.inl ⟨by rfl, ?_⟩) ?_ ?_
         rotate_left
         ·
          intro w'
          go_simp
          with_reducible rfl
         rotate_left
         ·
          simp only [Act.put, List.setIfInBounds_toArray, List.set_cons_zero, List.set_cons_succ, i64_w, i32_w]
          rfl
         refine pure_ (i := 15) (N := some 116) (v := ?_) (a' := ?_) #[true, true, true, true, true, true, true, true, true, true, true, true, true, true, true, true, false] rfl rfl (any_of HT_.out (by kernel_rfl)) (fun _ _ _ h => h) (Or.inl ⟨by rfl, ?_⟩) ?_ ?_
         rotate_left
         ·
          intro w'
          go_simp
          with_reducible rfl
         rotate_left
         ·
          simp only [Act.put, List.setIfInBounds_toArray, List.set_cons_zero, List.set_cons_succ, i64_w, i32_w]
          rfl
         refine pure_ (i := 16) (N := some 117) (v := ?_) (a' := ?_) #[true, true, true, true, true, true, true, true, true, true, true, true, true, true, true, true, true] rfl rfl (any_of HT_.out (by kernel_rfl)) (fun _ _ _ h => h) (Or.inl ⟨by rfl, ?_⟩) ?_ ?_
         rotate_left
         ·
          intro w'
          go_simp
          with_reducible rfl
         rotate_left
         ·
          simp only [Act.put, List.setIfInBounds_toArray, List.set_cons_zero, List.set_cons_succ, i64_w, i32_w]
          rfl
         refine done_ (done_of HT_.out (by kernel_rfl)) ?_
         try go_wp2
         go_roundg kj41
         case measure => have := HK1.out; have := HJ12.out; have := HJ21.out; have := HJ41.out; omega
         case rel => exact ⟨(x3_21), (wrap64 (x4_1 + 1)), (by first | rfl | (simp; done) | (simp [*]; done)), H', ⟨by have := HK1.out; have := HJ12.out; have := HJ21.out; have := HJ41.out; omega⟩, ⟨by (with_reducible repeat (first | apply Kd.R_alloc | apply Kd.R_drewN | apply Kd.R_drew)); exact HO_3.out⟩, ⟨blk_up BK251.out⟩, ⟨by repeat (first | (with_reducible first | exact HB.out | apply below_alloc | apply pw_below_drewN | apply below_drew1 | refine below_setA ?_ ‹_›) | exact HB.out)⟩⟩
end Go.Proofs.YtpepmmfhanaipaaGreatDoor.PJobBytes
