/-
  The walk of the statement LangTexts.
-/
import Derived.Test.YtbadcpaopdbgnaaDoorLangZ7
import Derived.Test.YtbadcpaopdbgnaaDoorLangZ5
import Derived.Test.YtbadcpaopdbgnaaDoorLangX
namespace Go.Proofs.YtbadcpaopdbgnaaDoor.Lang
open Go.RowKit Go.Shelf
set_option linter.unusedVariables false
set_option linter.unusedSimpArgs false

set_option maxRecDepth 100000 in
set_option maxHeartbeats 16000000 in
theorem texts_calls (LS : List ByteArray) (LO : Ops) (vS vL : Value) (w : World) (hL : Laid w) (hS : RdS w vS LS) (hO : Rd w vL LO) (hnu : nums LO) (hsh : short LO) (hlo : LO.len ≤ 3518437208780) : Calls Tryd.prog 5 #[.agg #[vS, vL]] w fun e w' => e = .returned (.bool true) ∧ Below w.heap.size w w' := by
  obtain ⟨A, c, rfl, -, -⟩ := id hS
  obtain ⟨A2, c2, rfl, -, -⟩ := id hO
  have HS := Aside.mk hS
  have HO := Aside.mk hO
  have HL := Aside.mk hL
  have HNU := Aside.mk hnu
  have HSH := Aside.mk hsh
  have HLO := Aside.mk hlo
  obtain ⟨n, hn⟩ : ∃ n, n = LS.length := ⟨_, rfl⟩
  rw [← hn] at HS ⊢
  clear hS hO hL hn hnu hsh hlo
  go_enter Tryd.func5, Tryd.ntmps5
  have HBX := Aside.mk (heap_alloc_new w (.cells #[.slice A n c, .slice A2 LO.len c2] 25))
  have HB0 := Aside.mk ((Below.refl _ w).alloc (Nat.le_refl _) (.cells #[.slice A n c, .slice A2 LO.len c2] 25))
  go_upto_region 3 with (first | (go_at_call 7; refine (heavy_calls LS LO _ _ _ (HS.out.keep (keep_below HB0.out)) (HO.out.keep (keep_below HB0.out))).mono ?_; rintro e W1 ⟨⟨hv, rfl⟩, hb⟩; have HB1 := Aside.mk hb; clear hb))
  · go_wp2
    go_ret
    exact ⟨rfl, HB0.out.trans (HB1.out.mono HB0.out.size)⟩
  · obtain ⟨b0, hb0⟩ : ∃ b0, b0 = w.heap.size := ⟨_, rfl⟩
    have hbx := (HB1.out.block b0 (by rw [hb0]; simp)).trans (hb0 ▸ HBX.out)
    have HBB := Aside.mk (HB0.out.trans (HB1.out.mono HB0.out.size))
    have HRL := Aside.mk (HO.out.keep (keep_below HBB.out))
    have HLD := Aside.mk (HL.out.below HBB.out)
    have c1_W1 := cell_of_row W1 b0 1 _ 25 _ hbx
    have HC1 := Aside.mk c1_W1
    have HLT := Aside.mk (show b0 < W1.heap.size from blk_lt' hbx)
    have HK_W1 := Aside.mk (Below.refl W1.heap.size W1)
    rw [← hb0]
    clear HB0 HBX HB1 hbx hb0 HS HO HL
    have heq : ∀ (v' : Value) (W : World), Rd W v' LO → Rd W (.slice A2 LO.len c2) LO → Calls Tryd.prog 11 #[v', .slice A2 LO.len c2] W fun e w' => e = .returned (.bool true) ∧ ∃ q, w' = W.drewN q := fun v' W h1 h2 => by
      have := eq_calls (LO.size + 1) LO LO v' (.slice A2 LO.len c2) W (Nat.lt_succ_self _) h1 h2
      rwa [decide_eq_true rfl] at this
    have HEQ := Aside.mk (fun (v' : Value) {W : World} (h1 : Rd W v' LO) (h2 : Rd W (.slice A2 LO.len c2) LO) => heq v' W h1 h2)
    clear heq
    by_cases hok : okOps LO 0 = true ∧ LO.size ≤ 128
    · have HOK := Aside.mk hok
      have h15 : ∀ (W : World), Rd W (.slice A2 LO.len c2) LO → Calls Tryd.prog 15 #[.slice A2 LO.len c2] W fun e w' => e = .returned (.tuple #[.int .i64 (LO.size : Int), .bool true]) ∧ Below W.heap.size W w' := fun W h => (Ops_calls LO _ W h).mono fun e w' ⟨⟨z, he, hz⟩, hb⟩ => by
        rw [decide_eq_true hok, hz hok] at he
        exact ⟨he, hb⟩
      have HO15 := Aside.mk h15
      have hzz : ((LO.size : Int) == (LO.size : Int)) = true := by simp
      have hzz2 : (LO.size == LO.size) = true := by simp
      obtain ⟨T, hT⟩ : ∃ T : ByteArray, T = ⟨(rtG LO true).toArray⟩ := ⟨_, rfl⟩
      have hTs : T.size = (rtG LO true).length := by rw [hT, size_arr']
      have hTT : (T.toList == T.toList) = true := by simp
      have HTT := Aside.mk hT
      by_cases h5 : 512 < T.size
      · have e1 : decide ((512 : Int) < (T.size : Int)) = true := decide_eq_true (by omega)
        have e1' : decide (512 < T.size) = true := decide_eq_true h5
        have HTX := Aside.mk (show textOf LO = (⟨#[]⟩, 2) by unfold textOf; rw [if_pos hok, if_pos (by omega)])
        clear hok h15 h5 hT hTs
        go_wp2_with (first
          | (go_at_call 14; refine (copy_calls (LO.size + 1) LO _ _ (Nat.lt_succ_self _) (HRL.out.keep (keep_below HK_W1.out)) HSH.out HLO.out).mono ?_; rintro e w2 ⟨⟨vin, F, rfl, hs, -⟩, hb⟩; have HRI_w2 := Aside.mk hs.rd; have HK_w2 := Aside.mk (HK_W1.out.trans (hb.mono HK_W1.out.size)); have c1_w2 := (HK_w2.out.cell (p := ⟨b0, 1, none⟩) HLT.out).trans HC1.out; clear hb; clear hs)
          | (go_at_call 15; refine (HO15.out _ (HRL.out.keep (keep_below HK_w2.out))).mono ?_; rintro e w3 ⟨rfl, hb⟩; have HRI_w3 := Aside.mk (HRI_w2.out.keep (keep_below hb)); have HK_w3 := Aside.mk (HK_w2.out.trans (hb.mono HK_w2.out.size)); have c1_w3 := (HK_w3.out.cell (p := ⟨b0, 1, none⟩) HLT.out).trans HC1.out; clear hb)
          | (go_at_call 16; refine (rtext_calls (LO.size + 1) LO _ 0 _ (Nat.lt_succ_self _) (HRL.out.keep (keep_below HK_w3.out)) HOK.out.1 HNU.out HOK.out.2).mono ?_; rw [← HTT.out]; rintro e w4 ⟨rfl, hb⟩; have HRI_w4 := Aside.mk (HRI_w3.out.keep (keep_below hb)); have HK_w4 := Aside.mk (HK_w3.out.trans (hb.mono HK_w3.out.size)); have c1_w4 := (HK_w4.out.cell (p := ⟨b0, 1, none⟩) HLT.out).trans HC1.out; clear hb)
          | (go_at_call 17; refine (Text_calls LO vin _ (HRI_w4.out) HNU.out (HLD.out.below HK_w4.out)).mono ?_; rw [HTX.out]; rintro e w5 ⟨rfl, hb⟩; have HRI_w5 := Aside.mk (HRI_w4.out.keep (keep_below hb)); have HK_w5 := Aside.mk (HK_w4.out.trans (hb.mono HK_w4.out.size)); have c1_w5 := (HK_w5.out.cell (p := ⟨b0, 1, none⟩) HLT.out).trans HC1.out; clear hb)
          | (go_at_call 18; refine (Count_calls LO vin _ (HRI_w5.out)).mono ?_; rw [if_pos HOK.out, if_pos HOK.out]; rintro e w6 ⟨rfl, hb⟩; have HRI_w6 := Aside.mk (HRI_w5.out.keep (keep_below hb)); have HK_w6 := Aside.mk (HK_w5.out.trans (hb.mono HK_w5.out.size)); have c1_w6 := (HK_w6.out.cell (p := ⟨b0, 1, none⟩) HLT.out).trans HC1.out; clear hb)
          | (go_at_call 19; refine (Check_calls LO vin _ (HRI_w6.out)).mono ?_; rw [if_pos HOK.out]; rintro e w7 ⟨rfl, hb⟩; have HRI_w7 := Aside.mk (HRI_w6.out.keep (keep_below hb)); have HK_w7 := Aside.mk (HK_w6.out.trans (hb.mono HK_w6.out.size)); have c1_w7 := (HK_w7.out.cell (p := ⟨b0, 1, none⟩) HLT.out).trans HC1.out; clear hb)
          | (go_at_call 11; refine (HEQ.out _ (HRI_w7.out) (HRL.out.keep (keep_below HK_w7.out))).mono ?_; rintro e w8 ⟨rfl, q4, rfl⟩)
          | (go_at_call 13; refine (wakes_calls _ ((HLD.out.below HK_w7.out).drew _)).mono ?_; rintro e w9 ⟨rfl, hb⟩; have HB9 := Aside.mk hb; clear hb)
          | (go_at_call 10; refine (num_calls _ _).mono ?_; rintro e w' ⟨rfl, hw'⟩; replace hw' := hw'.symm; subst hw'))
        go_ret
        exact ⟨rfl, (HBB.out.trans ((HK_w7.out.mono HBB.out.size))).trans (Below.trans (below_draw' (Below.refl _ _) q4) (HB9.out.mono (Nat.le_trans HBB.out.size HK_w7.out.size)))⟩
      · have e1 : decide ((512 : Int) < (T.size : Int)) = false := decide_eq_false (by omega)
        have e1' : decide (512 < T.size) = false := decide_eq_false h5
        have HTX := Aside.mk (show textOf LO = (T, 0) by unfold textOf; rw [if_pos hok, if_neg (by omega), hT])
        clear hok h15 h5 hT hTs
        go_wp2_with (first
          | (go_at_call 14; refine (copy_calls (LO.size + 1) LO _ _ (Nat.lt_succ_self _) (HRL.out.keep (keep_below HK_W1.out)) HSH.out HLO.out).mono ?_; rintro e w2 ⟨⟨vin, F, rfl, hs, -⟩, hb⟩; have HRI_w2 := Aside.mk hs.rd; have HK_w2 := Aside.mk (HK_W1.out.trans (hb.mono HK_W1.out.size)); have c1_w2 := (HK_w2.out.cell (p := ⟨b0, 1, none⟩) HLT.out).trans HC1.out; clear hb; clear hs)
          | (go_at_call 15; refine (HO15.out _ (HRL.out.keep (keep_below HK_w2.out))).mono ?_; rintro e w3 ⟨rfl, hb⟩; have HRI_w3 := Aside.mk (HRI_w2.out.keep (keep_below hb)); have HK_w3 := Aside.mk (HK_w2.out.trans (hb.mono HK_w2.out.size)); have c1_w3 := (HK_w3.out.cell (p := ⟨b0, 1, none⟩) HLT.out).trans HC1.out; clear hb)
          | (go_at_call 16; refine (rtext_calls (LO.size + 1) LO _ 0 _ (Nat.lt_succ_self _) (HRL.out.keep (keep_below HK_w3.out)) HOK.out.1 HNU.out HOK.out.2).mono ?_; rw [← HTT.out]; rintro e w4 ⟨rfl, hb⟩; have HRI_w4 := Aside.mk (HRI_w3.out.keep (keep_below hb)); have HK_w4 := Aside.mk (HK_w3.out.trans (hb.mono HK_w3.out.size)); have c1_w4 := (HK_w4.out.cell (p := ⟨b0, 1, none⟩) HLT.out).trans HC1.out; clear hb)
          | (go_at_call 17; refine (Text_calls LO vin _ (HRI_w4.out) HNU.out (HLD.out.below HK_w4.out)).mono ?_; rw [HTX.out]; rintro e w5 ⟨rfl, hb⟩; have HRI_w5 := Aside.mk (HRI_w4.out.keep (keep_below hb)); have HK_w5 := Aside.mk (HK_w4.out.trans (hb.mono HK_w4.out.size)); have c1_w5 := (HK_w5.out.cell (p := ⟨b0, 1, none⟩) HLT.out).trans HC1.out; clear hb)
          | (go_at_call 18; refine (Count_calls LO vin _ (HRI_w5.out)).mono ?_; rw [if_pos HOK.out, if_pos HOK.out]; rintro e w6 ⟨rfl, hb⟩; have HRI_w6 := Aside.mk (HRI_w5.out.keep (keep_below hb)); have HK_w6 := Aside.mk (HK_w5.out.trans (hb.mono HK_w5.out.size)); have c1_w6 := (HK_w6.out.cell (p := ⟨b0, 1, none⟩) HLT.out).trans HC1.out; clear hb)
          | (go_at_call 19; refine (Check_calls LO vin _ (HRI_w6.out)).mono ?_; rw [if_pos HOK.out]; rintro e w7 ⟨rfl, hb⟩; have HRI_w7 := Aside.mk (HRI_w6.out.keep (keep_below hb)); have HK_w7 := Aside.mk (HK_w6.out.trans (hb.mono HK_w6.out.size)); have c1_w7 := (HK_w7.out.cell (p := ⟨b0, 1, none⟩) HLT.out).trans HC1.out; clear hb)
          | (go_at_call 11; refine (HEQ.out _ (HRI_w7.out) (HRL.out.keep (keep_below HK_w7.out))).mono ?_; rintro e w8 ⟨rfl, q4, rfl⟩)
          | (go_at_call 13; refine (wakes_calls _ ((HLD.out.below HK_w7.out).drew _)).mono ?_; rintro e w9 ⟨rfl, hb⟩; have HB9 := Aside.mk hb; clear hb)
          | (go_at_call 10; refine (num_calls _ _).mono ?_; rintro e w' ⟨rfl, hw'⟩; replace hw' := hw'.symm; subst hw'))
        go_ret
        exact ⟨rfl, (HBB.out.trans ((HK_w7.out.mono HBB.out.size))).trans (Below.trans (below_draw' (Below.refl _ _) q4) (HB9.out.mono (Nat.le_trans HBB.out.size HK_w7.out.size)))⟩
    · have HOK := Aside.mk hok
      have h15 : ∀ (W : World), Rd W (.slice A2 LO.len c2) LO → Calls Tryd.prog 15 #[.slice A2 LO.len c2] W fun e w' => (∃ z : Int, e = .returned (.tuple #[.int .i64 z, .bool false])) ∧ Below W.heap.size W w' := fun W h => (Ops_calls LO _ W h).mono fun e w' ⟨⟨z, he, hz⟩, hb⟩ => by
        rw [decide_eq_false hok] at he
        exact ⟨⟨z, he⟩, hb⟩
      have HO15 := Aside.mk h15
      have HTX := Aside.mk (show textOf LO = (⟨#[]⟩, 1) by unfold textOf; rw [if_neg hok])
      clear hok h15
      go_wp2_with (first
        | (go_at_call 14; refine (copy_calls (LO.size + 1) LO _ _ (Nat.lt_succ_self _) (HRL.out.keep (keep_below HK_W1.out)) HSH.out HLO.out).mono ?_; rintro e w2 ⟨⟨vin, F, rfl, hs, -⟩, hb⟩; have HRI_w2 := Aside.mk hs.rd; have HK_w2 := Aside.mk (HK_W1.out.trans (hb.mono HK_W1.out.size)); have c1_w2 := (HK_w2.out.cell (p := ⟨b0, 1, none⟩) HLT.out).trans HC1.out; clear hb; clear hs)
        | (go_at_call 15; refine (HO15.out _ (HRL.out.keep (keep_below HK_w2.out))).mono ?_; rintro e w3 ⟨⟨z, rfl⟩, hb⟩; have HRI_w3 := Aside.mk (HRI_w2.out.keep (keep_below hb)); have HK_w3 := Aside.mk (HK_w2.out.trans (hb.mono HK_w2.out.size)); have c1_w3 := (HK_w3.out.cell (p := ⟨b0, 1, none⟩) HLT.out).trans HC1.out; clear hb)
        | (go_at_call 17; refine (Text_calls LO vin _ (HRI_w3.out) HNU.out (HLD.out.below HK_w3.out)).mono ?_; rw [HTX.out]; rintro e w5 ⟨rfl, hb⟩; have HRI_w5 := Aside.mk (HRI_w3.out.keep (keep_below hb)); have HK_w5 := Aside.mk (HK_w3.out.trans (hb.mono HK_w3.out.size)); have c1_w5 := (HK_w5.out.cell (p := ⟨b0, 1, none⟩) HLT.out).trans HC1.out; clear hb)
        | (go_at_call 18; refine (Count_calls LO vin _ (HRI_w5.out)).mono ?_; rw [if_neg HOK.out, if_neg HOK.out]; rintro e w6 ⟨rfl, hb⟩; have HRI_w6 := Aside.mk (HRI_w5.out.keep (keep_below hb)); have HK_w6 := Aside.mk (HK_w5.out.trans (hb.mono HK_w5.out.size)); have c1_w6 := (HK_w6.out.cell (p := ⟨b0, 1, none⟩) HLT.out).trans HC1.out; clear hb)
        | (go_at_call 19; refine (Check_calls LO vin _ (HRI_w6.out)).mono ?_; rw [if_neg HOK.out]; rintro e w7 ⟨rfl, hb⟩; have HRI_w7 := Aside.mk (HRI_w6.out.keep (keep_below hb)); have HK_w7 := Aside.mk (HK_w6.out.trans (hb.mono HK_w6.out.size)); have c1_w7 := (HK_w7.out.cell (p := ⟨b0, 1, none⟩) HLT.out).trans HC1.out; clear hb)
        | (go_at_call 11; refine (HEQ.out _ (HRI_w7.out) (HRL.out.keep (keep_below HK_w7.out))).mono ?_; rintro e w8 ⟨rfl, q4, rfl⟩)
        | (go_at_call 13; refine (wakes_calls _ ((HLD.out.below HK_w7.out).drew _)).mono ?_; rintro e w9 ⟨rfl, hb⟩; have HB9 := Aside.mk hb; clear hb)
        | (go_at_call 10; refine (num_calls _ _).mono ?_; rintro e w' ⟨rfl, hw'⟩; replace hw' := hw'.symm; subst hw'))
      go_ret
      exact ⟨rfl, (HBB.out.trans ((HK_w7.out.mono HBB.out.size))).trans (Below.trans (below_draw' (Below.refl _ _) q4) (HB9.out.mono (Nat.le_trans HBB.out.size HK_w7.out.size)))⟩
end Go.Proofs.YtbadcpaopdbgnaaDoor.Lang
