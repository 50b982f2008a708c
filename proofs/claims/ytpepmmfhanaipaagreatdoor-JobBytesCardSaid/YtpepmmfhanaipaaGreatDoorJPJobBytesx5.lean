-- Put together by mergex.py out of this workplace's texts.
import Derived.Test.YtpepmmfhanaipaaGreatDoorJPJobBytesx0
import Derived.Test.YtpepmmfhanaipaaGreatDoorJPJobBytesx3
namespace Go.Proofs.YtpepmmfhanaipaaGreatDoor.PJobBytes
open Go.RowKit Go.Proofs.YtpepmmfhanaipaaGreatDoorW.PrintWords Go.Proofs.YtpepmmfhanaipaaGreatDoorW.PrintLast Go.Proofs.YtpepmmfhanaipaaGreatDoorW.PrintMore
attribute [local go_sem] max2_int min2_int max_two min_two max_three min_three max_four min_four   -- for this text's walks alone
set_option linter.unusedVariables false
set_option linter.unusedSimpArgs false
mutual
def thresherref1_Take.l0 : Nat → ByteArray → Int → Int → Option (Int × Int × Int)
 | 0, _, _, _ => none
 | k + 1, x0, x5, x6 => if x6 < 10 then (if x6 ≥ (x0.size : Int) then (some (0, 0, 6)) else (if 0 ≤ x6 then (if x6 < (x0.size : Int) then (if x6 = 9 then (thresherref1_Take.j1 k x0 x5 x6 (IntKind.u64.wrap (bt x0 x6)) (decide ((IntKind.u64.wrap (bt x0 x6)) > 1))) else (thresherref1_Take.j1 k x0 x5 x6 (IntKind.u64.wrap (bt x0 x6)) false)) else (none)) else (none))) else (some (0, 0, 7))
def thresherref1_Take.j1 : Nat → ByteArray → Int → Int → Int → Bool → Option (Int × Int × Int)
 | 0, _, _, _, _, _ => none
 | k + 1, x0, x5, x6, x7, x26 => if x26 = true then (some (0, 0, 7)) else (if 0 ≤ (wrap64 (7 * x6)) then (if x7 < 128 then (if x7 = 0 then (thresherref1_Take.j2 k (Go.bits .or .u64 x5 (shl .u64 (Int.tmod x7 128) (wrap64 (7 * x6)))) x6 (decide (x6 > 0))) else (thresherref1_Take.j2 k (Go.bits .or .u64 x5 (shl .u64 (Int.tmod x7 128) (wrap64 (7 * x6)))) x6 false)) else (thresherref1_Take.l0 k x0 (Go.bits .or .u64 x5 (shl .u64 (Int.tmod x7 128) (wrap64 (7 * x6)))) (wrap64 (x6 + 1)))) else (none))
def thresherref1_Take.j2 : Nat → Int → Int → Bool → Option (Int × Int × Int)
 | 0, _, _, _ => none
 | k + 1, x5, x6, x41 => if x41 = true then (some (0, 0, 7)) else (if (Go.bits .and .u64 x5 1) = 1 then (some (Go.bits .xor .i64 (-1) (wrap64 (x5 / 2)), wrap64 (x6 + 1), 0)) else (some (wrap64 (x5 / 2), wrap64 (x6 + 1), 0)))
end
def thresherref1_Take.f (k : Nat) (a0 : ByteArray) : Option (Int × Int × Int) := thresherref1_Take.l0 k a0 0 0
set_option maxHeartbeats 8000000 in
set_option maxRecDepth 100000 in
theorem thresherref1_Take.calls (k : Nat) (a0 : ByteArray) (r1 : Int) (r2 : Int) (r3 : Int) (w : World) (h : thresherref1_Take.f k a0 = some (r1, r2, r3)) :
  Calls Tryz.prog 102 #[.string a0] w fun e w' => e = .returned (.tuple #[.int .i64 r1, .int .i64 r2, .int .i64 r3]) ∧ Drawn0 w w' := by
 have H : (thresherref1_Take.l0 k a0 0 0) = some (r1, r2, r3) := h
 clear h
 have H' := Aside0.mk H
 clear H
 go_enter Tryz.func102, Tryz.ntmps102
 go_wp2
 go_loopg [5, 6] k (fun kq v5 v6 w' => ∃ (x5_1 : Int) (x6_1 : Int), v5 = .int .u64 x5_1 ∧ v6 = .int .i64 x6_1 ∧ Aside0 (thresherref1_Take.l0 kq a0 x5_1 x6_1 = some (r1, r2, r3)) ∧ Aside0 (kq ≤ k) ∧ Drawn0 w w')
 case atStart => exact ⟨(0), (0), (by first | rfl | (simp; done) | (simp [*]; done)), (by first | rfl | (simp; done) | (simp [*]; done)), H', ⟨Nat.le_refl _⟩, by repeat (first | exact Drawn0.refl _ | apply Drawn0.step)⟩
 case round =>
  clear H'
  obtain ⟨x5_1, x6_1, rfl, rfl, HA, HK1, ⟨m1, rfl⟩⟩ := hrel
  cases gk with
  | zero => exact absurd HA.out (by simp [thresherref1_Take.l0])
  | succ k1 =>
   have H := HA.out; clear HA
   simp only [thresherref1_Take.l0] at H
   by_cases c2 : x6_1 < 10
   rotate_left
   ·
    rw [if_neg c2] at H
    have c2b0 : decide (x6_1 < 10) = false := decide_eq_false c2
    clear c2
    simp only [Option.some.injEq, Prod.mk.injEq] at H
    obtain ⟨rfl, rfl, rfl⟩ := H
    go_wp2
    go_ret3
    exact ⟨by first | rfl | (simp; done) | (simp [*]; done), by repeat (first | exact Drawn0.refl _ | apply Drawn0.step)⟩
   rw [if_pos c2] at H
   have c2b0 : decide (x6_1 < 10) = true := decide_eq_true c2
   clear c2
   by_cases c3 : x6_1 ≥ (a0.size : Int)
   ·
    rw [if_pos c3] at H
    have c3b0 : decide ((a0.size : Int) ≤ x6_1) = true := decide_eq_true c3
    clear c3
    simp only [Option.some.injEq, Prod.mk.injEq] at H
    obtain ⟨rfl, rfl, rfl⟩ := H
    go_wp2
    go_ret3
    exact ⟨by first | rfl | (simp; done) | (simp [*]; done), by repeat (first | exact Drawn0.refl _ | apply Drawn0.step)⟩
   rw [if_neg c3] at H
   have c3b0 : decide ((a0.size : Int) ≤ x6_1) = false := decide_eq_false c3
   clear c3
   by_cases c4 : 0 ≤ x6_1
   rotate_left
   ·
    rw [if_neg c4] at H
    exact absurd H (by simp)
   rw [if_pos c4] at H
   have c4b0 : decide (0 ≤ x6_1) = true := decide_eq_true c4
   clear c4
   by_cases c5 : x6_1 < (a0.size : Int)
   rotate_left
   ·
    rw [if_neg c5] at H
    exact absurd H (by simp)
   rw [if_pos c5] at H
   have c5b0 : decide (x6_1 < (a0.size : Int)) = true := decide_eq_true c5
   clear c5; have HC7 := Aside0.mk H; clear H
   have p6 : 0 ≤ (x6_1 : Int) := of_decide_eq_true (by first | (with_reducible assumption) | assumption)
   have q6 : x6_1 < (a0.size : Int) := of_decide_eq_true (by first | (with_reducible assumption) | assumption)
   have hx6 := bt_at a0 x6_1
   replace p6 := eq_true p6
   replace q6 := eq_true q6
   go_upto_region 8 with (fail)
   go_cut [26] (fun v26 wc => ∃ (kq : Nat) (x26_6 : Bool), v26 = .bool x26_6 ∧ Aside0 (thresherref1_Take.j1 kq a0 x5_1 x6_1 (IntKind.u64.wrap (bt a0 x6_1)) x26_6 = some (r1, r2, r3)) ∧ Aside0 (kq ≤ k1) ∧ Drawn0 w wc)
   case first =>
    have H := HC7.out; clear HC7
    by_cases c8 : x6_1 = 9
    rotate_left
    ·
     rw [if_neg c8] at H
     have c8b0 : (x6_1 == 9) = false := beq_eq_false_iff_ne.mpr c8
     have c8b1 : (x6_1 != 9) = true := bne_iff_ne.mpr c8
     (first | rw [c8b0] | (simp only [i64_w, i32_w]; rw [c8b0]) | skip)
     have H' := Aside0.mk H
     clear H
     go_wp2
     go_meet
     case rel => exact ⟨_, (false), (by first | rfl | (simp; done) | (simp [*]; done)), H', ⟨by have := HK1.out; first | omega | exact Nat.le_refl _⟩, by repeat (first | exact Drawn0.refl _ | apply Drawn0.step)⟩
    rw [if_pos c8] at H
    have c8b0 : (x6_1 == 9) = true := beq_iff_eq.mpr c8
    have c8b1 : (x6_1 != 9) = false := bne_eq_false_iff_eq.mpr c8
    clear c8
    (first | rw [c8b0] | (simp only [i64_w, i32_w]; rw [c8b0]) | skip)
    have H' := Aside0.mk H
    clear H
    go_wp2
    go_meet
    case rel => exact ⟨_, (decide ((IntKind.u64.wrap (bt a0 x6_1)) > 1)), (by first | rfl | (simp; done) | (simp [*]; done)), H', ⟨by have := HK1.out; first | omega | exact Nat.le_refl _⟩, by repeat (first | exact Drawn0.refl _ | apply Drawn0.step)⟩
   case rest =>
    clear HC7
    (try clear c2); (try clear c2b0); (try clear c3); (try clear c3b0); (try clear c4); (try clear c4b0); (try clear c5); (try clear c5b0); (try clear p6); (try clear q6); (try clear hx6); (try clear p6); (try clear q6)
    obtain ⟨kq, x26_6, rfl, HA, HJ6, ⟨mc6, rfl⟩⟩ := hcut
    cases kq with
    | zero => exact absurd HA.out (by simp [thresherref1_Take.j1])
    | succ kj6 =>
     have H := HA.out; clear HA
     simp only [thresherref1_Take.j1] at H
     by_cases c9 : x26_6 = true
     ·
      subst c9
      have H1 : (some (0, 0, 7)) = some (r1, r2, r3) := by rw [if_pos rfl] at H; exact H
      clear H; have H := H1; clear H1
      simp only [Option.some.injEq, Prod.mk.injEq] at H
      obtain ⟨rfl, rfl, rfl⟩ := H
      go_wp2
      go_ret3
      exact ⟨by first | rfl | (simp; done) | (simp [*]; done), by repeat (first | exact Drawn0.refl _ | apply Drawn0.step)⟩
     replace c9 := Bool.eq_false_iff.mpr c9
     subst c9
     have H1 : (if 0 ≤ (wrap64 (7 * x6_1)) then (if (IntKind.u64.wrap (bt a0 x6_1)) < 128 then (if (IntKind.u64.wrap (bt a0 x6_1)) = 0 then (thresherref1_Take.j2 kj6 (Go.bits .or .u64 x5_1 (shl .u64 (Int.tmod (IntKind.u64.wrap (bt a0 x6_1)) 128) (wrap64 (7 * x6_1)))) x6_1 (decide (x6_1 > 0))) else (thresherref1_Take.j2 kj6 (Go.bits .or .u64 x5_1 (shl .u64 (Int.tmod (IntKind.u64.wrap (bt a0 x6_1)) 128) (wrap64 (7 * x6_1)))) x6_1 false)) else (thresherref1_Take.l0 kj6 a0 (Go.bits .or .u64 x5_1 (shl .u64 (Int.tmod (IntKind.u64.wrap (bt a0 x6_1)) 128) (wrap64 (7 * x6_1)))) (wrap64 (x6_1 + 1)))) else (none)) = some (r1, r2, r3) := by rw [if_neg (show ¬ (false = true) by decide)] at H; exact H
     clear H; have H := H1; clear H1
     obtain ⟨ji10, hji10⟩ : ∃ j_ : Int, (wrap64 (7 * x6_1)) = j_ := ⟨_, rfl⟩
     replace H : (if 0 ≤ (ji10) then (if (IntKind.u64.wrap (bt a0 x6_1)) < 128 then (if (IntKind.u64.wrap (bt a0 x6_1)) = 0 then (thresherref1_Take.j2 kj6 (Go.bits .or .u64 x5_1 (shl .u64 (Int.tmod (IntKind.u64.wrap (bt a0 x6_1)) 128) (ji10))) x6_1 (decide (x6_1 > 0))) else (thresherref1_Take.j2 kj6 (Go.bits .or .u64 x5_1 (shl .u64 (Int.tmod (IntKind.u64.wrap (bt a0 x6_1)) 128) (ji10))) x6_1 false)) else (thresherref1_Take.l0 kj6 a0 (Go.bits .or .u64 x5_1 (shl .u64 (Int.tmod (IntKind.u64.wrap (bt a0 x6_1)) 128) (ji10))) (wrap64 (x6_1 + 1)))) else (none)) = some (r1, r2, r3) := by first | (rw [hji10] at H; exact H) | (simp only [hji10] at H ⊢; exact H)
     have hji10w : (IntKind.i64.wrap (7 * x6_1)) = ji10 := (i64_w _).trans hji10
     by_cases c11 : 0 ≤ (ji10)
     rotate_left
     ·
      rw [if_neg c11] at H
      exact absurd H (by simp)
     rw [if_pos c11] at H
     have c11b0 := eq_true c11
     have c11b1 : decide (0 ≤ (ji10)) = true := decide_eq_true c11
     clear c11
     obtain ⟨ji12, hji12⟩ : ∃ j_ : Int, (shl .u64 (Int.tmod (IntKind.u64.wrap (bt a0 x6_1)) 128) (ji10)) = j_ := ⟨_, rfl⟩
     replace H : (if (IntKind.u64.wrap (bt a0 x6_1)) < 128 then (if (IntKind.u64.wrap (bt a0 x6_1)) = 0 then (thresherref1_Take.j2 kj6 (Go.bits .or .u64 x5_1 (ji12)) x6_1 (decide (x6_1 > 0))) else (thresherref1_Take.j2 kj6 (Go.bits .or .u64 x5_1 (ji12)) x6_1 false)) else (thresherref1_Take.l0 kj6 a0 (Go.bits .or .u64 x5_1 (ji12)) (wrap64 (x6_1 + 1)))) = some (r1, r2, r3) := by first | (rw [hji12] at H; exact H) | (simp only [hji12] at H ⊢; exact H)
     have hji12_ : (IntKind.u64.wrap ((Int.tmod (IntKind.u64.wrap (bt a0 x6_1)) 128) * 2 ^ min (ji10).toNat 64)) = ji12 := hji12
     have hji12z : (ji10) ≤ 64 → (IntKind.u64.wrap ((Int.tmod (IntKind.u64.wrap (bt a0 x6_1)) 128) * 2 ^ (ji10).toNat)) = ji12 := shl_small hji12
     by_cases c13 : (IntKind.u64.wrap (bt a0 x6_1)) < 128
     rotate_left
     ·
      rw [if_neg c13] at H
      have c13b0 : decide ((IntKind.u64.wrap (bt a0 x6_1)) < 128) = false := decide_eq_false c13
      clear c13
      have H' := Aside0.mk H
      clear H
      go_wp2
      go_roundg kj6
      case measure => have := HK1.out; have := HJ6.out; omega
      case rel => exact ⟨(Go.bits .or .u64 x5_1 (ji12)), (wrap64 (x6_1 + 1)), (by first | rfl | (simp; done) | (simp only [← hji12] <;> (first | rfl | simp)) | (simp [*]; done)), (by first | rfl | (simp; done) | (simp [*]; done)), H', ⟨by have := HK1.out; have := HJ6.out; omega⟩, by repeat (first | exact Drawn0.refl _ | apply Drawn0.step)⟩
     rw [if_pos c13] at H
     have c13b0 : decide ((IntKind.u64.wrap (bt a0 x6_1)) < 128) = true := decide_eq_true c13
     clear c13; have HC14 := Aside0.mk H; clear H
     go_upto_region 12 with (fail)
     go_cut [41] (fun v41 wc => ∃ (kq : Nat) (x41_13 : Bool), v41 = .bool x41_13 ∧ Aside0 (thresherref1_Take.j2 kq (Go.bits .or .u64 x5_1 (ji12)) x6_1 x41_13 = some (r1, r2, r3)) ∧ Aside0 (kq ≤ kj6) ∧ Drawn0 w wc)
     case first =>
      have H := HC14.out; clear HC14
      by_cases c15 : (IntKind.u64.wrap (bt a0 x6_1)) = 0
      rotate_left
      ·
       rw [if_neg c15] at H
       have c15b0 : ((IntKind.u64.wrap (bt a0 x6_1)) == 0) = false := beq_eq_false_iff_ne.mpr c15
       have c15b1 : ((IntKind.u64.wrap (bt a0 x6_1)) != 0) = true := bne_iff_ne.mpr c15
       (first | rw [c15b0] | (simp only [i64_w, i32_w]; rw [c15b0]) | skip)
       have H' := Aside0.mk H
       clear H
       go_wp2
       go_meet
       case rel => exact ⟨_, (false), (by first | rfl | (simp; done) | (simp [*]; done)), H', ⟨by have := HK1.out; have := HJ6.out; first | omega | exact Nat.le_refl _⟩, by repeat (first | exact Drawn0.refl _ | apply Drawn0.step)⟩
      rw [if_pos c15] at H
      have c15b0 : ((IntKind.u64.wrap (bt a0 x6_1)) == 0) = true := beq_iff_eq.mpr c15
      have c15b1 : ((IntKind.u64.wrap (bt a0 x6_1)) != 0) = false := bne_eq_false_iff_eq.mpr c15
      clear c15
      (first | rw [c15b0] | (simp only [i64_w, i32_w]; rw [c15b0]) | skip)
      have H' := Aside0.mk H
      clear H
      go_wp2
      go_meet
      case rel => exact ⟨_, (decide (x6_1 > 0)), (by first | rfl | (simp; done) | (simp [*]; done)), H', ⟨by have := HK1.out; have := HJ6.out; first | omega | exact Nat.le_refl _⟩, by repeat (first | exact Drawn0.refl _ | apply Drawn0.step)⟩
     case rest =>
      clear HC14
      (try clear c9); (try clear c11); (try clear c11b0); (try clear c11b1); (try clear c13); (try clear c13b0)
      obtain ⟨kq, x41_13, rfl, HA, HJ13, ⟨mc13, rfl⟩⟩ := hcut
      cases kq with
      | zero => exact absurd HA.out (by simp [thresherref1_Take.j2])
      | succ kj13 =>
       have H := HA.out; clear HA
       simp only [thresherref1_Take.j2] at H
       by_cases c16 : x41_13 = true
       ·
        subst c16
        have H1 : (some (0, 0, 7)) = some (r1, r2, r3) := by rw [if_pos rfl] at H; exact H
        clear H; have H := H1; clear H1
        simp only [Option.some.injEq, Prod.mk.injEq] at H
        obtain ⟨rfl, rfl, rfl⟩ := H
        go_wp2
        go_ret3
        exact ⟨by first | rfl | (simp; done) | (simp only [← hji10, ← hji12] <;> (first | rfl | simp)) | (simp [*]; done), by repeat (first | exact Drawn0.refl _ | apply Drawn0.step)⟩
       replace c16 := Bool.eq_false_iff.mpr c16
       subst c16
       have H1 : (if (Go.bits .and .u64 (Go.bits .or .u64 x5_1 (ji12)) 1) = 1 then (some (Go.bits .xor .i64 (-1) (wrap64 ((Go.bits .or .u64 x5_1 (ji12)) / 2)), wrap64 (x6_1 + 1), 0)) else (some (wrap64 ((Go.bits .or .u64 x5_1 (ji12)) / 2), wrap64 (x6_1 + 1), 0))) = some (r1, r2, r3) := by rw [if_neg (show ¬ (false = true) by decide)] at H; exact H
       clear H; have H := H1; clear H1
       by_cases c17 : (Go.bits .and .u64 (Go.bits .or .u64 x5_1 (ji12)) 1) = 1
       rotate_left
       ·
        rw [if_neg c17] at H
        have c17b0 : ((Go.bits .and .u64 (Go.bits .or .u64 x5_1 (ji12)) 1) == 1) = false := beq_eq_false_iff_ne.mpr c17
        have c17b1 : ((Go.bits .and .u64 (Go.bits .or .u64 x5_1 (ji12)) 1) != 1) = true := bne_iff_ne.mpr c17
        simp only [Option.some.injEq, Prod.mk.injEq] at H
        obtain ⟨rfl, rfl, rfl⟩ := H
        go_wp2
        go_ret3
        exact ⟨by first | rfl | (simp; done) | (simp only [← hji10, ← hji12] <;> (first | rfl | simp)) | (simp [*]; done), by repeat (first | exact Drawn0.refl _ | apply Drawn0.step)⟩
       rw [if_pos c17] at H
       have c17b0 : ((Go.bits .and .u64 (Go.bits .or .u64 x5_1 (ji12)) 1) == 1) = true := beq_iff_eq.mpr c17
       have c17b1 : ((Go.bits .and .u64 (Go.bits .or .u64 x5_1 (ji12)) 1) != 1) = false := bne_eq_false_iff_eq.mpr c17
       clear c17
       simp only [Option.some.injEq, Prod.mk.injEq] at H
       obtain ⟨rfl, rfl, rfl⟩ := H
       go_wp2
       go_ret3
       exact ⟨by first | rfl | (simp; done) | (simp only [← hji10, ← hji12] <;> (first | rfl | simp)) | (simp [*]; done), by repeat (first | exact Drawn0.refl _ | apply Drawn0.step)⟩
def IsS120 (w0 W : World) (g : Nat) (f0 : ByteArray) (f1 : Int) : Prop := W.heap[g]? = some (.cells #[.string f0, .int .i64 f1] 120 (0, 0)) ∧ w0.heap.size ≤ g
theorem IsS120.grown {w0 W : World} {g : Nat} {f0 : ByteArray} {f1 : Int} {W1 : World} {row : Option Nat} (h : IsS120 w0 W g f0 f1) (hw : W.grownBy W1 row) (hne : some g ≠ row) : IsS120 w0 W1 g f0 f1 := by
 obtain ⟨hb, hg⟩ := h
 exact ⟨blk_grown hb hw hne, hg⟩
theorem IsS120.kept {w0 W : World} {g : Nat} {f0 : ByteArray} {f1 : Int} {W1 : World} {S : Nat → Prop} (h : IsS120 w0 W g f0 f1) (hk : Kept W W1 S) (hne : ¬ S g) : IsS120 w0 W1 g f0 f1 := by
 obtain ⟨hb, hg⟩ := h
 exact ⟨blk_kept hb hk hne, hg⟩
theorem IsS120.below {w0 W : World} {g : Nat} {f0 : ByteArray} {f1 : Int} {W1 : World} (h : IsS120 w0 W g f0 f1) (hw : Below W.heap.size W W1) : IsS120 w0 W1 g f0 f1 := h.grown (grown_of_below hw none) (by simp)
theorem IsS120.alloc {w0 W : World} {g : Nat} {f0 : ByteArray} {f1 : Int} (h : IsS120 w0 W g f0 f1) (o : Obj) : IsS120 w0 (W.alloc o) g f0 f1 := h.below (below_alloc (Below.refl _ _) o)
theorem IsS120.drewN {w0 W : World} {g : Nat} {f0 : ByteArray} {f1 : Int} (h : IsS120 w0 W g f0 f1) (m : Nat) : IsS120 w0 (W.drewN m) g f0 f1 := h
theorem IsS120.drew {w0 W : World} {g : Nat} {f0 : ByteArray} {f1 : Int} (h : IsS120 w0 W g f0 f1) : IsS120 w0 W.drew g f0 f1 := h
theorem IsS120.at_ {w0 W : World} {g : Nat} {f0 : ByteArray} {f1 : Int} {w' : World} {m : Nat} (hq : W.drewN m = w') (h : IsS120 w0 W g f0 f1) : IsS120 w0 w' g f0 f1 := by subst hq; exact IsS120.drewN h m
theorem IsS120.apart {w0 W : World} {g : Nat} {f0 : ByteArray} {f1 : Int} {α : Type} {d : Kd α} {e : Nat} {base : Nat} {ok : Nat → Prop} {v : Value} {xs : List α} (h : IsS120 w0 W g f0 f1) (ho : d.R e W base ok v xs) (ht : ∀ q, q ∈ e :: d.E → q ≠ 120) : d.R e W base (fun k => ok k ∧ k ≠ g) v xs := by
 obtain ⟨hb, hg⟩ := h
 exact Kd.R_types ho hb ht
theorem IsS120.own_ne {w0 W : World} {g : Nat} {f0 : ByteArray} {f1 : Int} {α : Type} {d : Kd α} {e : Nat} {base : Nat} {ok : Nat → Prop} {v : Value} {xs : List α} (h : IsS120 w0 W g f0 f1) (ho : d.R e W base ok v xs) (ht : e ≠ 120) : some g ≠ v.ownBlock := by
 obtain ⟨hb, hg⟩ := h
 exact Kd.R_ne ho hb ht
theorem IsS120.lt {w0 W : World} {g : Nat} {f0 : ByteArray} {f1 : Int} (h : IsS120 w0 W g f0 f1) : g < W.heap.size := by
 obtain ⟨hb, hg⟩ := h
 exact blk_lt hb
theorem IsS120.ge {w0 W : World} {g : Nat} {f0 : ByteArray} {f1 : Int} (h : IsS120 w0 W g f0 f1) : w0.heap.size ≤ g := by
 obtain ⟨hb, hg⟩ := h
 exact hg
theorem IsS120.far {w0 W : World} {g : Nat} {f0 : ByteArray} {f1 : Int} {p : Addr} (h : IsS120 w0 W g f0 f1) (hne : g ≠ p.block) (u : Value) : IsS120 w0 (W.setCell p u) g f0 f1 := by
 obtain ⟨hb, hg⟩ := h
 exact ⟨blk_far hb hne u, hg⟩
theorem cellS120_0 {W : World} {g : Nat} {f0 : ByteArray} {f1 : Int} (h : W.heap[g]? = some (.cells #[.string f0, .int .i64 f1] 120 (0, 0))) : W.cell? ⟨g, 0, none⟩ = some (.string f0) := (blk_cell h 0).trans rfl
theorem IsS120.set_0 {w0 W : World} {g : Nat} {f0 : ByteArray} {f1 : Int} (h : IsS120 w0 W g f0 f1) (x : ByteArray) : IsS120 w0 (W.setCell ⟨g, 0, none⟩ (.string x)) g x f1 := by
 obtain ⟨hb, hg⟩ := h
 exact ⟨by simpa using blk_set hb 0 (.string x), hg⟩
theorem cellS120_1 {W : World} {g : Nat} {f0 : ByteArray} {f1 : Int} (h : W.heap[g]? = some (.cells #[.string f0, .int .i64 f1] 120 (0, 0))) : W.cell? ⟨g, 1, none⟩ = some (.int .i64 f1) := (blk_cell h 1).trans rfl
theorem IsS120.set_1 {w0 W : World} {g : Nat} {f0 : ByteArray} {f1 : Int} (h : IsS120 w0 W g f0 f1) (x : Int) : IsS120 w0 (W.setCell ⟨g, 1, none⟩ (.int .i64 x)) g f0 x := by
 obtain ⟨hb, hg⟩ := h
 exact ⟨by simpa using blk_set hb 1 (.int .i64 x), hg⟩
theorem IsS120.new (w0 W : World) (f0 : ByteArray) (f1 : Int) (hB : Below w0.heap.size w0 W) : IsS120 w0 (W.alloc (.cells #[.string f0, .int .i64 f1] 120)) W.heap.size f0 f1 := ⟨by simpa using heap_alloc_new W _, hB.size⟩
def thresherref13_reader_num.f (k : Nat) (s0_0 : ByteArray) (s0_1 : Int) : Option (Int × ByteArray × Int) := if s0_1 = 0 then ((thresherref1_Take.f k s0_0).bind fun bt217 => (if bt217.2.2 = 0 then (if 0 ≤ bt217.2.1 then (if bt217.2.1 ≤ (s0_0.size : Int) then (some (bt217.1, s0_0.extract (bt217.2.1 : Int).toNat s0_0.size, s0_1)) else (none)) else (none)) else (some (0, s0_0, bt217.2.2)))) else (some (0, s0_0, s0_1))
set_option maxHeartbeats 8000000 in
set_option maxRecDepth 100000 in
theorem thresherref13_reader_num.calls (k : Nat) (g : Nat) (s0_0 : ByteArray) (s0_1 : Int) (r1 : Int) (r2 : ByteArray) (r3 : Int) (w0 w : World) (hI : IsS120 w0 w g s0_0 s0_1) (hB : Below w0.heap.size w0 w) (h : thresherref13_reader_num.f k s0_0 s0_1 = some (r1, r2, r3)) :
  Calls Tryz.prog 66 #[.pointer (some ⟨g, 0, none⟩)] w fun e w' => e = .returned (.int .i64 r1) ∧ IsS120 w0 w' g r2 r3 ∧ Below w0.heap.size w0 w' ∧ KeepBut w w' g none := by
 have HI0 := Aside0.mk hI
 have HK := Aside0.mk (KeepBut.refl w g none)
 have HL := Aside0.mk hB.size; clear hI; have HW0 := Aside0.mk hB.size; have HB := Aside0.mk hB; clear hB
 have H : (if s0_1 = 0 then ((thresherref1_Take.f k s0_0).bind fun bt217 => (if bt217.2.2 = 0 then (if 0 ≤ bt217.2.1 then (if bt217.2.1 ≤ (s0_0.size : Int) then (some (bt217.1, s0_0.extract (bt217.2.1 : Int).toNat s0_0.size, s0_1)) else (none)) else (none)) else (some (0, s0_0, bt217.2.2)))) else (some (0, s0_0, s0_1))) = some (r1, r2, r3) := h
 clear h
 by_cases c2 : s0_1 = 0
 rotate_left
 ·
  rw [if_neg c2] at H
  have c2b0 : (s0_1 == 0) = false := beq_eq_false_iff_ne.mpr c2
  have c2b1 : (s0_1 != 0) = true := bne_iff_ne.mpr c2
  simp only [Option.some.injEq, Prod.mk.injEq] at H
  obtain ⟨rfl, rfl, rfl⟩ := H
  obtain ⟨HGz9, hgz9⟩ := HI0.out
  have hcz9_0 := cellS120_0 HGz9; have hcz9_1 := cellS120_1 HGz9; have hfz9_0 := blk_frozen HGz9 0; have hfz9_1 := blk_frozen HGz9 1; clear HGz9 hgz9
  go_enter Tryz.func66, Tryz.ntmps66
  go_wp2
  go_ret
  exact ⟨by first | rfl | (simp [errW_none, errW_some] <;> rfl) | (simp [*, errW_none, errW_some] <;> rfl), by repeat (first | (with_reducible first | exact HI0.out | apply IsS120.alloc | apply IsS120.drewN | apply IsS120.drew | apply IsS120.set_0 | apply IsS120.set_1) | exact HI0.out), by repeat (first | (with_reducible first | exact HB.out | apply below_alloc | apply pw_below_drewN | apply below_drew1 | refine below_set ?_ (IsS120.ge HI0.out)) | exact HB.out), by repeat (first | (with_reducible first | exact HK.out | apply KeepBut.set_ | apply keep_drewN | apply keep_drew | apply keep_alloc) | exact HK.out)⟩
 rw [if_pos c2] at H
 have c2b0 : (s0_1 == 0) = true := beq_iff_eq.mpr c2
 have c2b1 : (s0_1 != 0) = false := bne_eq_false_iff_eq.mpr c2
 clear c2
 replace H := Option.bind_eq_some_iff.mp H
 obtain ⟨⟨t217, t218, t219⟩, A30, H⟩ := H
 replace H : (if t219 = 0 then (if 0 ≤ t218 then (if t218 ≤ (s0_0.size : Int) then (some (t217, s0_0.extract (t218 : Int).toNat s0_0.size, s0_1)) else (none)) else (none)) else (some (0, s0_0, t219))) = some (r1, r2, r3) := H
 have A3 := Aside0.mk A30; clear A30
 by_cases c4 : t219 = 0
 rotate_left
 ·
  rw [if_neg c4] at H
  have c4b0 : (t219 == 0) = false := beq_eq_false_iff_ne.mpr c4
  have c4b1 : (t219 != 0) = true := bne_iff_ne.mpr c4
  simp only [Option.some.injEq, Prod.mk.injEq] at H
  obtain ⟨rfl, rfl, rfl⟩ := H
  obtain ⟨HGz8, hgz8⟩ := HI0.out
  have hcz8_0 := cellS120_0 HGz8; have hcz8_1 := cellS120_1 HGz8; have hfz8_0 := blk_frozen HGz8 0; have hfz8_1 := blk_frozen HGz8 1; clear HGz8 hgz8
  go_enter Tryz.func66, Tryz.ntmps66
  go_wp2_with (first | ((with_reducible refine gate_callee (f := 102) rfl ?_); refine goesL_ (some 16) rfl rfl Tryz.func102 (by kernel_rfl) rfl #[.string s0_0] rfl (by (try simp only [List.map_toArray, List.map_cons, List.map_nil]); first | done | rfl | (simp only [List.length_drop, List.length_take]; rfl)) ?_; (with_reducible refine (thresherref1_Take.calls k s0_0 t217 t218 t219 _ A3.out).mono ?_); rintro e w' ⟨rfl, ⟨nd, rfl⟩⟩; refine ⟨_, rfl, ?_⟩))
  go_ret
  exact ⟨by first | rfl | (simp [errW_none, errW_some] <;> rfl) | (simp [*, errW_none, errW_some] <;> rfl), by repeat (first | (with_reducible first | exact HI0.out | apply IsS120.alloc | apply IsS120.drewN | apply IsS120.drew | apply IsS120.set_0 | apply IsS120.set_1) | exact HI0.out), by repeat (first | (with_reducible first | exact HB.out | apply below_alloc | apply pw_below_drewN | apply below_drew1 | refine below_set ?_ (IsS120.ge HI0.out)) | exact HB.out), by repeat (first | (with_reducible first | exact HK.out | apply KeepBut.set_ | apply keep_drewN | apply keep_drew | apply keep_alloc) | exact HK.out)⟩
 rw [if_pos c4] at H
 have c4b0 : (t219 == 0) = true := beq_iff_eq.mpr c4
 have c4b1 : (t219 != 0) = false := bne_eq_false_iff_eq.mpr c4
 clear c4
 by_cases c5 : 0 ≤ t218
 rotate_left
 ·
  rw [if_neg c5] at H
  exact absurd H (by simp)
 rw [if_pos c5] at H
 have c5b0 := eq_true c5
 have c5b1 : decide (0 ≤ t218) = true := decide_eq_true c5
 clear c5
 by_cases c6 : t218 ≤ (s0_0.size : Int)
 rotate_left
 ·
  rw [if_neg c6] at H
  exact absurd H (by simp)
 rw [if_pos c6] at H
 have c6b0 := eq_true c6
 have c6b1 : decide (t218 ≤ (s0_0.size : Int)) = true := decide_eq_true c6
 clear c6
 simp only [Option.some.injEq, Prod.mk.injEq] at H
 obtain ⟨rfl, rfl, rfl⟩ := H
 obtain ⟨HGz7, hgz7⟩ := HI0.out
 have hcz7_0 := cellS120_0 HGz7; have hcz7_1 := cellS120_1 HGz7; have hfz7_0 := blk_frozen HGz7 0; have hfz7_1 := blk_frozen HGz7 1; clear HGz7 hgz7
 go_enter Tryz.func66, Tryz.ntmps66
 go_wp2_with (first | ((with_reducible refine gate_callee (f := 102) rfl ?_); refine goesL_ (some 16) rfl rfl Tryz.func102 (by kernel_rfl) rfl #[.string s0_0] rfl (by (try simp only [List.map_toArray, List.map_cons, List.map_nil]); first | done | rfl | (simp only [List.length_drop, List.length_take]; rfl)) ?_; (with_reducible refine (thresherref1_Take.calls k s0_0 t217 t218 t219 _ A3.out).mono ?_); rintro e w' ⟨rfl, ⟨nd, rfl⟩⟩; refine ⟨_, rfl, ?_⟩))
 go_ret
 exact ⟨by first | rfl | (simp [errW_none, errW_some] <;> rfl) | (simp [*, errW_none, errW_some] <;> rfl), by repeat (first | (with_reducible first | exact HI0.out | apply IsS120.alloc | apply IsS120.drewN | apply IsS120.drew | apply IsS120.set_0 | apply IsS120.set_1) | exact HI0.out), by repeat (first | (with_reducible first | exact HB.out | apply below_alloc | apply pw_below_drewN | apply below_drew1 | refine below_set ?_ (IsS120.ge HI0.out)) | exact HB.out), by repeat (first | (with_reducible first | exact HK.out | apply KeepBut.set_ | apply keep_drewN | apply keep_drew | apply keep_alloc) | exact HK.out)⟩
mutual
def thresherref13_Take.j0 : Nat → Int → Bool → ByteArray → Int → Int → ByteArray → Int → Int → Int → Int → Option (Int × ByteArray × Int × Int × Int × List Int × Int × Int)
 | 0, _, _, _, _, _, _, _, _, _, _ => none
 | k + 1, x6, x28, x222000, x222001, x223000, x223001, x223002, x223003, x223004, x223006 => if x28 = true then (some (0, (⟨#[]⟩ : ByteArray), 0, 0, 0, ([] : List Int), 0, 7)) else (if x222001 = 0 then (thresherref13_Take.j1 k x6 (decide (x6 > (x222000.size : Int))) x222000 x222001 x223000 x223001 x223002 x223003 x223004 x223006) else (thresherref13_Take.j1 k x6 false x222000 x222001 x223000 x223001 x223002 x223003 x223004 x223006))
def thresherref13_Take.j1 : Nat → Int → Bool → ByteArray → Int → Int → ByteArray → Int → Int → Int → Int → Option (Int × ByteArray × Int × Int × Int × List Int × Int × Int)
 | 0, _, _, _, _, _, _, _, _, _, _ => none
 | k + 1, x6, x43, x222000, x222001, x223000, x223001, x223002, x223003, x223004, x223006 => if x43 = true then (some (0, (⟨#[]⟩ : ByteArray), 0, 0, 0, ([] : List Int), 0, 6)) else (if x222001 = 0 then (if 0 ≤ x6 then (if x6 ≤ (x222000.size : Int) then (thresherref13_Take.j2 k (x222000.extract (x6 : Int).toNat x222000.size) x222001 x223000 (x222000.extract 0 (x6 : Int).toNat) x223002 x223003 x223004 x223006) else (none)) else (none)) else (thresherref13_Take.j2 k x222000 x222001 x223000 x223001 x223002 x223003 x223004 x223006))
def thresherref13_Take.j2 : Nat → ByteArray → Int → Int → ByteArray → Int → Int → Int → Int → Option (Int × ByteArray × Int × Int × Int × List Int × Int × Int)
 | 0, _, _, _, _, _, _, _, _ => none
 | k + 1, x222000, x222001, x223000, x223001, x223002, x223003, x223004, x223006 => (thresherref13_reader_num.f k x222000 x222001).bind fun bt229 => ((thresherref13_reader_num.f k bt229.2.1 bt229.2.2).bind fun bt232 => ((thresherref13_reader_num.f k bt232.2.1 bt232.2.2).bind fun bt235 => ((thresherref13_reader_num.f k bt235.2.1 bt235.2.2).bind fun bt238 => (if bt238.2.2 = 0 then (if bt238.1 < 0 then (thresherref13_Take.j3 k bt238.1 true bt238.2.1 bt238.2.2 x223000 x223001 bt229.1 bt232.1 bt235.1 x223006) else (thresherref13_Take.j3 k bt238.1 (decide (bt238.1 > 6)) bt238.2.1 bt238.2.2 x223000 x223001 bt229.1 bt232.1 bt235.1 x223006)) else (thresherref13_Take.j3 k bt238.1 false bt238.2.1 bt238.2.2 x223000 x223001 bt229.1 bt232.1 bt235.1 x223006)))))
def thresherref13_Take.j3 : Nat → Int → Bool → ByteArray → Int → Int → ByteArray → Int → Int → Int → Int → Option (Int × ByteArray × Int × Int × Int × List Int × Int × Int)
 | 0, _, _, _, _, _, _, _, _, _, _ => none
 | k + 1, x6, x89, x222000, x222001, x223000, x223001, x223002, x223003, x223004, x223006 => if x89 = true then (some (0, (⟨#[]⟩ : ByteArray), 0, 0, 0, ([] : List Int), 0, 7)) else (thresherref13_Take.l0 k x6 0 x222000 x222001 x223000 x223001 x223002 x223003 x223004 ([] : List Int) x223006)
def thresherref13_Take.j5 : Nat → ByteArray → Int → Int → ByteArray → Int → Int → Int → List Int → Int → Option (Int × ByteArray × Int × Int × Int × List Int × Int × Int)
 | 0, _, _, _, _, _, _, _, _, _ => none
 | k + 1, x222000, x222001, x223000, x223001, x223002, x223003, x223004, x223005, x223006 => (thresherref13_reader_num.f k x222000 x222001).bind fun bt247 => (if bt247.2.2 = 0 then (if (bt247.2.1.size : Int) > 0 then (some (0, (⟨#[]⟩ : ByteArray), 0, 0, 0, ([] : List Int), 0, 7)) else ((thresherref13_Job.f k x223000 x223001 x223002 x223003 x223004 x223005 bt247.1).bind fun t250 => (if t250 = true then (some (x223000, x223001, x223002, x223003, x223004, x223005, bt247.1, 0)) else (some (0, (⟨#[]⟩ : ByteArray), 0, 0, 0, ([] : List Int), 0, 7))))) else (some (0, (⟨#[]⟩ : ByteArray), 0, 0, 0, ([] : List Int), 0, bt247.2.2)))
def thresherref13_Take.l0 : Nat → Int → Int → ByteArray → Int → Int → ByteArray → Int → Int → Int → List Int → Int → Option (Int × ByteArray × Int × Int × Int × List Int × Int × Int)
 | 0, _, _, _, _, _, _, _, _, _, _, _ => none
 | k + 1, x6, x7, x222000, x222001, x223000, x223001, x223002, x223003, x223004, x223005, x223006 => if x7 < x6 then (if x222001 = 0 then ((thresherref13_reader_num.f k x222000 x222001).bind fun bt241 => (if x223005.length < 17592186044416 then (thresherref13_Take.l0 k x6 (wrap64 (x7 + 1)) bt241.2.1 bt241.2.2 x223000 x223001 x223002 x223003 x223004 (x223005 ++ [bt241.1]) x223006) else (none))) else (thresherref13_Take.j5 k x222000 x222001 x223000 x223001 x223002 x223003 x223004 x223005 x223006)) else (thresherref13_Take.j5 k x222000 x222001 x223000 x223001 x223002 x223003 x223004 x223005 x223006)
end
def thresherref13_Take.f (k : Nat) (a0 : ByteArray) : Option (Int × ByteArray × Int × Int × Int × List Int × Int × Int) := (thresherref13_reader_num.f k a0 0).bind fun bt223 => ((thresherref13_reader_num.f k bt223.2.1 bt223.2.2).bind fun bt226 => (if bt226.2.2 = 0 then (if bt226.1 < 0 then (thresherref13_Take.j0 k bt226.1 true bt226.2.1 bt226.2.2 bt223.1 (⟨#[]⟩ : ByteArray) 0 0 0 0) else (thresherref13_Take.j0 k bt226.1 (decide (bt226.1 > 512)) bt226.2.1 bt226.2.2 bt223.1 (⟨#[]⟩ : ByteArray) 0 0 0 0)) else (thresherref13_Take.j0 k bt226.1 false bt226.2.1 bt226.2.2 bt223.1 (⟨#[]⟩ : ByteArray) 0 0 0 0)))
def thresherlaw14_wakes.f : Option (Bool) := some true
end Go.Proofs.YtpepmmfhanaipaaGreatDoor.PJobBytes
