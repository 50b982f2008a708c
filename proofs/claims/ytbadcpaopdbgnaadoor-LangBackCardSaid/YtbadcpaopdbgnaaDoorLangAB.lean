/-
  The walk of the statement LangBack.
-/
import Derived.Test.YtbadcpaopdbgnaaDoorLangAA
import Derived.Test.YtbadcpaopdbgnaaDoorLangX
namespace Go.Proofs.YtbadcpaopdbgnaaDoor.Lang
open Go.RowKit Go.Shelf
set_option linter.unusedVariables false
set_option linter.unusedSimpArgs false

theorem fold_err : ∀ (ws : List ByteArray) (st : St) (c : Int), ws.foldlM wd st = .error c → c = 7 ∨ c = 2
  | [], st, c, h => by cases h
  | w :: ws, st, c, h => by
    cases hw : wd st w with
    | error c' =>
      rw [fold_cons_err hw] at h
      cases h
      exact wd_err hw
    | ok st' =>
      rw [fold_cons hw] at h
      exact fold_err ws st' c h
theorem parsed_err {s : ByteArray} {c : Int} (h : parsed s = .error c) : (c != 0) = true := by
  unfold parsed at h
  split at h
  · cases h
    rfl
  · cases hf : (wordsOf s).foldlM wd st0 with
    | error c' =>
      rw [hf] at h
      cases h
      rcases fold_err _ _ _ hf with rfl | rfl <;> rfl
    | ok st =>
      rw [hf] at h
      simp only at h
      split at h
      · cases h
        rfl
      · split at h
        · cases h
        · cases h
          rfl
theorem parse_good (s : ByteArray) (l : Ops) (w : World) (hp : parsed s = .ok l) (hL : Laid w) : Calls Tryd.prog 8 #[.string s] w fun e w' => (∃ v, e = .returned (.tuple #[v, .int .i64 0]) ∧ Rd w' v l) ∧ Below w.heap.size w w' :=
  (parse_calls s w hL).mono fun e w' ⟨hb, he, ho⟩ => by
    obtain ⟨v, F, he', hs, hn⟩ := ho l hp
    exact ⟨⟨v, he', hs.rd⟩, hb⟩
theorem parse_bad (s : ByteArray) (c : Int) (w : World) (hp : parsed s = .error c) (hL : Laid w) : Calls Tryd.prog 8 #[.string s] w fun e w' => e = .returned (.tuple #[.slice none 0 0, .int .i64 c]) ∧ Below w.heap.size w w' :=
  (parse_calls s w hL).mono fun e w' ⟨hb, he, ho⟩ => ⟨he c hp, hb⟩
theorem eq_same (l : Ops) (v v' : Value) (W : World) (h1 : Rd W v l) (h2 : Rd W v' l) : Calls Tryd.prog 11 #[v, v'] W fun e w' => e = .returned (.bool true) ∧ ∃ q, w' = W.drewN q := by
  have := eq_calls (l.size + 1) l l v v' W (Nat.lt_succ_self _) h1 h2
  rwa [decide_eq_true rfl] at this
theorem Rd.drew' {w : World} {v : Value} {l : Ops} (h : Rd w v l) (q : Nat) : Rd (w.drewN q) v l := h.keep (keep_below (below_draw' (Below.refl _ _) q))

set_option maxRecDepth 100000 in
set_option maxHeartbeats 16000000 in
theorem back_calls (LS : List ByteArray) (LO : Ops) (vS vL : Value) (w : World) (hL : Laid w) (hS : RdS w vS LS) (hO : Rd w vL LO) (hnu : nums LO) (hsh : short LO) (hlo : LO.len ≤ 3518437208780) : Calls Tryd.prog 6 #[.agg #[vS, vL]] w fun e w' => e = .returned (.bool true) ∧ Below w.heap.size w w' := by
  obtain ⟨A, c, rfl, hlb, hcs⟩ := id hS
  obtain ⟨A2, c2, rfl, -, -⟩ := id hO
  obtain ⟨n, hn⟩ : ∃ n, n = LS.length := ⟨_, rfl⟩
  have HCS := Aside.mk hcs
  have HS := Aside.mk hS
  have HO := Aside.mk hO
  have HL := Aside.mk hL
  have HNU := Aside.mk hnu
  rw [← hn] at HS hlb ⊢
  have HN := Aside.mk hn
  clear hcs hS hO hL hn hnu hsh hlo
  go_enter Tryd.func6, Tryd.ntmps6
  have HBX := Aside.mk (heap_alloc_new w (.cells #[.slice A n c, .slice A2 LO.len c2] 25))
  have HB0 := Aside.mk ((Below.refl _ w).alloc (Nat.le_refl _) (.cells #[.slice A n c, .slice A2 LO.len c2] 25))
  go_upto_region 3 with (first | (go_at_call 7; refine (heavy_calls LS LO _ _ _ (HS.out.keep (keep_below HB0.out)) (HO.out.keep (keep_below HB0.out))).mono ?_; rintro e W1 ⟨⟨hv, rfl⟩, hb⟩; have HB1 := Aside.mk hb; clear hb))
  · go_wp2
    go_ret
    exact ⟨rfl, HB0.out.trans (HB1.out.mono HB0.out.size)⟩
  · obtain ⟨b0, hb0⟩ : ∃ b0, b0 = w.heap.size := ⟨_, rfl⟩
    have hbx := (HB1.out.block b0 (by rw [hb0]; simp)).trans (hb0 ▸ HBX.out)
    have HBX1 := Aside.mk hbx
    have HBB := Aside.mk (HB0.out.trans (HB1.out.mono HB0.out.size))
    have HRL := Aside.mk (HO.out.keep (keep_below HBB.out))
    have HLD := Aside.mk (HL.out.below HBB.out)
    have c1_W1 := cell_of_row W1 b0 1 _ 25 _ hbx
    have HC1 := Aside.mk c1_W1
    have HLT := Aside.mk (show b0 < W1.heap.size from blk_lt' hbx)
    rw [← hb0]
    clear HB0 HBX HB1 hbx hb0 HS HO
    obtain ⟨T, cT, htx⟩ : ∃ T cT, textOf LO = (T, cT) := ⟨_, _, rfl⟩
    have HTX := Aside.mk htx
    by_cases hc0 : cT = 0
    · subst hc0
      have HPT := Aside.mk (parsed_text htx HNU.out)
      clear htx
      go_wp2_with (first
        | (go_at_call 17; refine (Text_calls LO _ _ HRL.out HNU.out HLD.out).mono ?_; rw [HTX.out]; rintro e w2 ⟨rfl, hb⟩; have HK_w2 := Aside.mk hb; have c1_w2 := (hb.cell (p := ⟨b0, 1, none⟩) HLT.out).trans HC1.out; clear hb)
        | (go_at_call 8; refine (parse_good T LO _ HPT.out (HLD.out.below HK_w2.out)).mono ?_; rintro e w3 ⟨⟨v3, rfl, hr⟩, hb⟩; have HR3 := Aside.mk hr; have HK_w3 := Aside.mk (HK_w2.out.trans (hb.mono HK_w2.out.size)); have c1_w3 := (HK_w3.out.cell (p := ⟨b0, 1, none⟩) HLT.out).trans HC1.out; clear hb hr)
        | (go_at_call 11; refine (eq_same LO _ _ _ HR3.out (HRL.out.keep (keep_below HK_w3.out))).mono ?_; rintro e w4 ⟨rfl, q4, rfl⟩)
        | (go_at_call 10; refine (num_calls _ _).mono ?_; rintro e w' ⟨rfl, hw'⟩; replace hw' := hw'.symm; subst hw'))
      go_loopg [7] (n + 11) (fun kq v7 w' => ∃ (i : Nat), v7 = .int .i64 (i : Int) ∧ Aside (i + kq = n + 11 ∧ i ≤ n ∧ i ≤ 10) ∧ Aside (Below W1.heap.size W1 w'))
      case atStart => exact ⟨0, rfl, ⟨by omega⟩, ⟨HK_w3.out.trans (below_draw' (Below.refl _ _) q4)⟩⟩
      case round =>
        obtain ⟨i, rfl, HI, HBW⟩ := hrel
        cases gk with
        | zero => have := HI.out; omega
        | succ k1 =>
          have c0 := cell_of_row wr b0 0 _ 25 _ ((HBW.out.block b0 HLT.out).trans HBX1.out)
          have HLR := Aside.mk (HLD.out.below HBW.out)
          have HBR := Aside.mk (HBB.out.trans (HBW.out.mono HBB.out.size))
          by_cases hi : i < n
          · have hib := decide_eq_true (show (i : Int) < (n : Int) by omega)
            have hib2 := decide_eq_true hi
            by_cases hi10 : i < 10
            · have hjb := decide_eq_true (show (i : Int) < 10 by omega)
              have hjb2 := decide_eq_true hi10
              have p1 := eq_true (show 0 ≤ (i : Int) by omega)
              have q1 := eq_true (show (i : Int) < (n : Int) by omega)
              obtain ⟨ad, rfl, hx⟩ := HCS.out i (by have := HN.out; omega)
              obtain ⟨x, hxx⟩ : ∃ x, x = LS[i]'(by have := HN.out; omega) := ⟨_, rfl⟩
              rw [← hxx] at hx
              have hxr := (keep_below HBR.out) _ _ hx
              clear hxx hx
              cases hpx : parsed x with
              | error cx =>
                have hcx := parsed_err hpx
                have HPX := Aside.mk hpx
                clear hpx
                go_wp2_with (first
                  | (go_at_call 8; refine (parse_bad x cx _ HPX.out HLR.out).mono ?_; rintro e u2 ⟨rfl, hb⟩; have HK_u2 := Aside.mk hb; clear hb)
                  | (go_at_call 10; refine (num_calls _ _).mono ?_; rintro e w' ⟨rfl, hw'⟩; replace hw' := hw'.symm; subst hw'))
                go_roundg k1
                case measure => omega
                case rel => exact ⟨i + 1, by simp; done, ⟨by have := HI.out; omega, by omega, by omega⟩, ⟨HBW.out.trans (HK_u2.out.mono HBW.out.size)⟩⟩
              | ok l =>
                have HPX := Aside.mk hpx
                have HNL := Aside.mk (parsed_ok hpx).2.1
                rcases text_code hpx with ⟨t, htl⟩ | htl
                · have HTL := Aside.mk htl
                  have HPT := Aside.mk (parsed_text htl HNL.out)
                  by_cases hl5 : t.size < 508
                  · have e5 := decide_eq_true (show (t.size : Int) < 508 by omega)
                    have e5' := decide_eq_true hl5
                    have hcat1 := eq_false (show ¬ 9223372036854775807 < 2 + t.size by omega)
                    have hcat1' := eq_false (show ¬ 9223372036854775807 < (⟨#[32, 10]⟩ : ByteArray).size + t.size by show ¬ 9223372036854775807 < 2 + t.size; omega)
                    have hcat2 := eq_false (show ¬ 9223372036854775807 < ((⟨#[32, 10]⟩ : ByteArray) ++ t).size + 2 by rw [ByteArray.size_append]; show ¬ 9223372036854775807 < 2 + t.size + 2; omega)
                    have hcat2' := eq_false (show ¬ 9223372036854775807 < ((⟨#[32, 10]⟩ : ByteArray) ++ t).size + (⟨#[10, 32]⟩ : ByteArray).size by rw [ByteArray.size_append]; show ¬ 9223372036854775807 < 2 + t.size + 2; omega)
                    have hcat3 := eq_false (show ¬ 9223372036854775807 < 2 + t.size + 2 by omega)
                    have HPB := Aside.mk (parsed_blanks (s := ((⟨#[32, 10]⟩ : ByteArray) ++ t) ++ ⟨#[10, 32]⟩) htl HNL.out (by simp) hl5)
                    clear hpx htl hl5
                    go_wp2_with (first
                      | (go_at_call 8; refine (parse_good _ l _ HPB.out (HLR.out.below HK_u5.out)).mono ?_; rintro e u6 ⟨⟨v6, rfl, hr⟩, hb⟩; have HR6 := Aside.mk hr; have HR36 := Aside.mk (HR35.out.keep (keep_below hb)); have HK_u6 := Aside.mk (HK_u5.out.trans (hb.mono HK_u5.out.size)); clear hb hr)
                      | (go_at_call 8; refine (parse_good t l _ HPT.out (HLR.out.below HK_u3.out)).mono ?_; rintro e u4 ⟨⟨v4, rfl, hr⟩, hb⟩; have HR4 := Aside.mk hr; have HR34 := Aside.mk (HR3.out.keep (keep_below hb)); have HK_u4 := Aside.mk (HK_u3.out.trans (hb.mono HK_u3.out.size)); clear hb hr)
                      | (go_at_call 8; refine (parse_good x l _ HPX.out HLR.out).mono ?_; rintro e u2 ⟨⟨v2, rfl, hr⟩, hb⟩; have HR2 := Aside.mk hr; have HK_u2 := Aside.mk hb; clear hb hr)
                      | (go_at_call 17; refine (Text_calls l _ _ HR2.out HNL.out (HLR.out.below HK_u2.out)).mono ?_; rw [HTL.out]; rintro e u3 ⟨rfl, hb⟩; have HR3 := Aside.mk (HR2.out.keep (keep_below hb)); have HK_u3 := Aside.mk (HK_u2.out.trans (hb.mono HK_u2.out.size)); clear hb)
                      | (go_at_call 11; refine (eq_same l v6 v2 _ HR6.out HR36.out).mono ?_; rintro e u7 ⟨rfl, q7, rfl⟩; have HK_u7 := Aside.mk (HK_u6.out.trans (below_draw' (Below.refl _ _) q7)))
                      | (go_at_call 11; refine (eq_same l v2 v4 _ HR34.out HR4.out).mono ?_; rintro e u5 ⟨rfl, q5, rfl⟩; have HK_u5 := Aside.mk (HK_u4.out.trans (below_draw' (Below.refl _ _) q5)); have HR35 := Aside.mk (HR34.out.drew' q5))
                      | (go_at_call 10; refine (num_calls _ _).mono ?_; rintro e w' ⟨rfl, hw'⟩; replace hw' := hw'.symm; subst hw'))
                    go_roundg k1
                    case measure => omega
                    case rel => exact ⟨i + 1, by simp; done, ⟨by have := HI.out; omega, by omega, by omega⟩, ⟨HBW.out.trans (HK_u7.out.mono HBW.out.size)⟩⟩
                  · have e5 := decide_eq_false (show ¬ (t.size : Int) < 508 by omega)
                    have e5' := decide_eq_false hl5
                    clear hpx htl hl5
                    go_wp2_with (first
                      | (go_at_call 8; refine (parse_good t l _ HPT.out (HLR.out.below HK_u3.out)).mono ?_; rintro e u4 ⟨⟨v4, rfl, hr⟩, hb⟩; have HR4 := Aside.mk hr; have HR34 := Aside.mk (HR3.out.keep (keep_below hb)); have HK_u4 := Aside.mk (HK_u3.out.trans (hb.mono HK_u3.out.size)); clear hb hr)
                      | (go_at_call 8; refine (parse_good x l _ HPX.out HLR.out).mono ?_; rintro e u2 ⟨⟨v2, rfl, hr⟩, hb⟩; have HR2 := Aside.mk hr; have HK_u2 := Aside.mk hb; clear hb hr)
                      | (go_at_call 17; refine (Text_calls l _ _ HR2.out HNL.out (HLR.out.below HK_u2.out)).mono ?_; rw [HTL.out]; rintro e u3 ⟨rfl, hb⟩; have HR3 := Aside.mk (HR2.out.keep (keep_below hb)); have HK_u3 := Aside.mk (HK_u2.out.trans (hb.mono HK_u2.out.size)); clear hb)
                      | (go_at_call 11; refine (eq_same l v2 v4 _ HR34.out HR4.out).mono ?_; rintro e u5 ⟨rfl, q5, rfl⟩; have HK_u5 := Aside.mk (HK_u4.out.trans (below_draw' (Below.refl _ _) q5)); have HR35 := Aside.mk (HR34.out.drew' q5))
                      | (go_at_call 10; refine (num_calls _ _).mono ?_; rintro e w' ⟨rfl, hw'⟩; replace hw' := hw'.symm; subst hw'))
                    go_roundg k1
                    case measure => omega
                    case rel => exact ⟨i + 1, by simp; done, ⟨by have := HI.out; omega, by omega, by omega⟩, ⟨HBW.out.trans (HK_u5.out.mono HBW.out.size)⟩⟩
                · have HTL := Aside.mk htl
                  clear hpx htl
                  go_wp2_with (first
                    | (go_at_call 8; refine (parse_good x l _ HPX.out HLR.out).mono ?_; rintro e u2 ⟨⟨v2, rfl, hr⟩, hb⟩; have HR2 := Aside.mk hr; have HK_u2 := Aside.mk hb; clear hb hr)
                    | (go_at_call 17; refine (Text_calls l _ _ HR2.out HNL.out (HLR.out.below HK_u2.out)).mono ?_; rw [HTL.out]; rintro e u3 ⟨rfl, hb⟩; have HR3 := Aside.mk (HR2.out.keep (keep_below hb)); have HK_u3 := Aside.mk (HK_u2.out.trans (hb.mono HK_u2.out.size)); clear hb)
                    | (go_at_call 10; refine (num_calls _ _).mono ?_; rintro e w' ⟨rfl, hw'⟩; replace hw' := hw'.symm; subst hw'))
                  go_roundg k1
                  case measure => omega
                  case rel => exact ⟨i + 1, by simp; done, ⟨by have := HI.out; omega, by omega, by omega⟩, ⟨HBW.out.trans (HK_u3.out.mono HBW.out.size)⟩⟩
            · have hjb := decide_eq_false (show ¬ (i : Int) < 10 by omega)
              have hjb2 := decide_eq_false hi10
              go_wp2_with (first | (go_at_call 13; refine (wakes_calls _ HLR.out).mono ?_; rintro e w12 ⟨rfl, hb12⟩; have HB12 := Aside.mk hb12; clear hb12))
              go_ret
              exact ⟨rfl, HBR.out.trans (HB12.out.mono HBR.out.size)⟩
          · have hib := decide_eq_false (show ¬ (i : Int) < (n : Int) by omega)
            have hib2 := decide_eq_false hi
            go_wp2_with (first | (go_at_call 13; refine (wakes_calls _ HLR.out).mono ?_; rintro e w12 ⟨rfl, hb12⟩; have HB12 := Aside.mk hb12; clear hb12))
            go_ret
            exact ⟨rfl, HBR.out.trans (HB12.out.mono HBR.out.size)⟩
    · have hcb : (cT == 0) = false := by simp [hc0]
      clear hc0 htx
      go_wp2_with (first
        | (go_at_call 17; refine (Text_calls LO _ _ HRL.out HNU.out HLD.out).mono ?_; rw [HTX.out]; rintro e w2 ⟨rfl, hb⟩; have HK_w2 := Aside.mk hb; have c1_w2 := (hb.cell (p := ⟨b0, 1, none⟩) HLT.out).trans HC1.out; clear hb)
        | (go_at_call 10; refine (num_calls _ _).mono ?_; rintro e w' ⟨rfl, hw'⟩; replace hw' := hw'.symm; subst hw'))
      go_loopg [7] (n + 11) (fun kq v7 w' => ∃ (i : Nat), v7 = .int .i64 (i : Int) ∧ Aside (i + kq = n + 11 ∧ i ≤ n ∧ i ≤ 10) ∧ Aside (Below W1.heap.size W1 w'))
      case atStart => exact ⟨0, rfl, ⟨by omega⟩, ⟨HK_w2.out⟩⟩
      case round =>
        obtain ⟨i, rfl, HI, HBW⟩ := hrel
        cases gk with
        | zero => have := HI.out; omega
        | succ k1 =>
          have c0 := cell_of_row wr b0 0 _ 25 _ ((HBW.out.block b0 HLT.out).trans HBX1.out)
          have HLR := Aside.mk (HLD.out.below HBW.out)
          have HBR := Aside.mk (HBB.out.trans (HBW.out.mono HBB.out.size))
          by_cases hi : i < n
          · have hib := decide_eq_true (show (i : Int) < (n : Int) by omega)
            have hib2 := decide_eq_true hi
            by_cases hi10 : i < 10
            · have hjb := decide_eq_true (show (i : Int) < 10 by omega)
              have hjb2 := decide_eq_true hi10
              have p1 := eq_true (show 0 ≤ (i : Int) by omega)
              have q1 := eq_true (show (i : Int) < (n : Int) by omega)
              obtain ⟨ad, rfl, hx⟩ := HCS.out i (by have := HN.out; omega)
              obtain ⟨x, hxx⟩ : ∃ x, x = LS[i]'(by have := HN.out; omega) := ⟨_, rfl⟩
              rw [← hxx] at hx
              have hxr := (keep_below HBR.out) _ _ hx
              clear hxx hx
              cases hpx : parsed x with
              | error cx =>
                have hcx := parsed_err hpx
                have HPX := Aside.mk hpx
                clear hpx
                go_wp2_with (first
                  | (go_at_call 8; refine (parse_bad x cx _ HPX.out HLR.out).mono ?_; rintro e u2 ⟨rfl, hb⟩; have HK_u2 := Aside.mk hb; clear hb)
                  | (go_at_call 10; refine (num_calls _ _).mono ?_; rintro e w' ⟨rfl, hw'⟩; replace hw' := hw'.symm; subst hw'))
                go_roundg k1
                case measure => omega
                case rel => exact ⟨i + 1, by simp; done, ⟨by have := HI.out; omega, by omega, by omega⟩, ⟨HBW.out.trans (HK_u2.out.mono HBW.out.size)⟩⟩
              | ok l =>
                have HPX := Aside.mk hpx
                have HNL := Aside.mk (parsed_ok hpx).2.1
                rcases text_code hpx with ⟨t, htl⟩ | htl
                · have HTL := Aside.mk htl
                  have HPT := Aside.mk (parsed_text htl HNL.out)
                  by_cases hl5 : t.size < 508
                  · have e5 := decide_eq_true (show (t.size : Int) < 508 by omega)
                    have e5' := decide_eq_true hl5
                    have hcat1 := eq_false (show ¬ 9223372036854775807 < 2 + t.size by omega)
                    have hcat1' := eq_false (show ¬ 9223372036854775807 < (⟨#[32, 10]⟩ : ByteArray).size + t.size by show ¬ 9223372036854775807 < 2 + t.size; omega)
                    have hcat2 := eq_false (show ¬ 9223372036854775807 < ((⟨#[32, 10]⟩ : ByteArray) ++ t).size + 2 by rw [ByteArray.size_append]; show ¬ 9223372036854775807 < 2 + t.size + 2; omega)
                    have hcat2' := eq_false (show ¬ 9223372036854775807 < ((⟨#[32, 10]⟩ : ByteArray) ++ t).size + (⟨#[10, 32]⟩ : ByteArray).size by rw [ByteArray.size_append]; show ¬ 9223372036854775807 < 2 + t.size + 2; omega)
                    have hcat3 := eq_false (show ¬ 9223372036854775807 < 2 + t.size + 2 by omega)
                    have HPB := Aside.mk (parsed_blanks (s := ((⟨#[32, 10]⟩ : ByteArray) ++ t) ++ ⟨#[10, 32]⟩) htl HNL.out (by simp) hl5)
                    clear hpx htl hl5
                    go_wp2_with (first
                      | (go_at_call 8; refine (parse_good _ l _ HPB.out (HLR.out.below HK_u5.out)).mono ?_; rintro e u6 ⟨⟨v6, rfl, hr⟩, hb⟩; have HR6 := Aside.mk hr; have HR36 := Aside.mk (HR35.out.keep (keep_below hb)); have HK_u6 := Aside.mk (HK_u5.out.trans (hb.mono HK_u5.out.size)); clear hb hr)
                      | (go_at_call 8; refine (parse_good t l _ HPT.out (HLR.out.below HK_u3.out)).mono ?_; rintro e u4 ⟨⟨v4, rfl, hr⟩, hb⟩; have HR4 := Aside.mk hr; have HR34 := Aside.mk (HR3.out.keep (keep_below hb)); have HK_u4 := Aside.mk (HK_u3.out.trans (hb.mono HK_u3.out.size)); clear hb hr)
                      | (go_at_call 8; refine (parse_good x l _ HPX.out HLR.out).mono ?_; rintro e u2 ⟨⟨v2, rfl, hr⟩, hb⟩; have HR2 := Aside.mk hr; have HK_u2 := Aside.mk hb; clear hb hr)
                      | (go_at_call 17; refine (Text_calls l _ _ HR2.out HNL.out (HLR.out.below HK_u2.out)).mono ?_; rw [HTL.out]; rintro e u3 ⟨rfl, hb⟩; have HR3 := Aside.mk (HR2.out.keep (keep_below hb)); have HK_u3 := Aside.mk (HK_u2.out.trans (hb.mono HK_u2.out.size)); clear hb)
                      | (go_at_call 11; refine (eq_same l v6 v2 _ HR6.out HR36.out).mono ?_; rintro e u7 ⟨rfl, q7, rfl⟩; have HK_u7 := Aside.mk (HK_u6.out.trans (below_draw' (Below.refl _ _) q7)))
                      | (go_at_call 11; refine (eq_same l v2 v4 _ HR34.out HR4.out).mono ?_; rintro e u5 ⟨rfl, q5, rfl⟩; have HK_u5 := Aside.mk (HK_u4.out.trans (below_draw' (Below.refl _ _) q5)); have HR35 := Aside.mk (HR34.out.drew' q5))
                      | (go_at_call 10; refine (num_calls _ _).mono ?_; rintro e w' ⟨rfl, hw'⟩; replace hw' := hw'.symm; subst hw'))
                    go_roundg k1
                    case measure => omega
                    case rel => exact ⟨i + 1, by simp; done, ⟨by have := HI.out; omega, by omega, by omega⟩, ⟨HBW.out.trans (HK_u7.out.mono HBW.out.size)⟩⟩
                  · have e5 := decide_eq_false (show ¬ (t.size : Int) < 508 by omega)
                    have e5' := decide_eq_false hl5
                    clear hpx htl hl5
                    go_wp2_with (first
                      | (go_at_call 8; refine (parse_good t l _ HPT.out (HLR.out.below HK_u3.out)).mono ?_; rintro e u4 ⟨⟨v4, rfl, hr⟩, hb⟩; have HR4 := Aside.mk hr; have HR34 := Aside.mk (HR3.out.keep (keep_below hb)); have HK_u4 := Aside.mk (HK_u3.out.trans (hb.mono HK_u3.out.size)); clear hb hr)
                      | (go_at_call 8; refine (parse_good x l _ HPX.out HLR.out).mono ?_; rintro e u2 ⟨⟨v2, rfl, hr⟩, hb⟩; have HR2 := Aside.mk hr; have HK_u2 := Aside.mk hb; clear hb hr)
                      | (go_at_call 17; refine (Text_calls l _ _ HR2.out HNL.out (HLR.out.below HK_u2.out)).mono ?_; rw [HTL.out]; rintro e u3 ⟨rfl, hb⟩; have HR3 := Aside.mk (HR2.out.keep (keep_below hb)); have HK_u3 := Aside.mk (HK_u2.out.trans (hb.mono HK_u2.out.size)); clear hb)
                      | (go_at_call 11; refine (eq_same l v2 v4 _ HR34.out HR4.out).mono ?_; rintro e u5 ⟨rfl, q5, rfl⟩; have HK_u5 := Aside.mk (HK_u4.out.trans (below_draw' (Below.refl _ _) q5)); have HR35 := Aside.mk (HR34.out.drew' q5))
                      | (go_at_call 10; refine (num_calls _ _).mono ?_; rintro e w' ⟨rfl, hw'⟩; replace hw' := hw'.symm; subst hw'))
                    go_roundg k1
                    case measure => omega
                    case rel => exact ⟨i + 1, by simp; done, ⟨by have := HI.out; omega, by omega, by omega⟩, ⟨HBW.out.trans (HK_u5.out.mono HBW.out.size)⟩⟩
                · have HTL := Aside.mk htl
                  clear hpx htl
                  go_wp2_with (first
                    | (go_at_call 8; refine (parse_good x l _ HPX.out HLR.out).mono ?_; rintro e u2 ⟨⟨v2, rfl, hr⟩, hb⟩; have HR2 := Aside.mk hr; have HK_u2 := Aside.mk hb; clear hb hr)
                    | (go_at_call 17; refine (Text_calls l _ _ HR2.out HNL.out (HLR.out.below HK_u2.out)).mono ?_; rw [HTL.out]; rintro e u3 ⟨rfl, hb⟩; have HR3 := Aside.mk (HR2.out.keep (keep_below hb)); have HK_u3 := Aside.mk (HK_u2.out.trans (hb.mono HK_u2.out.size)); clear hb)
                    | (go_at_call 10; refine (num_calls _ _).mono ?_; rintro e w' ⟨rfl, hw'⟩; replace hw' := hw'.symm; subst hw'))
                  go_roundg k1
                  case measure => omega
                  case rel => exact ⟨i + 1, by simp; done, ⟨by have := HI.out; omega, by omega, by omega⟩, ⟨HBW.out.trans (HK_u3.out.mono HBW.out.size)⟩⟩
            · have hjb := decide_eq_false (show ¬ (i : Int) < 10 by omega)
              have hjb2 := decide_eq_false hi10
              go_wp2_with (first | (go_at_call 13; refine (wakes_calls _ HLR.out).mono ?_; rintro e w12 ⟨rfl, hb12⟩; have HB12 := Aside.mk hb12; clear hb12))
              go_ret
              exact ⟨rfl, HBR.out.trans (HB12.out.mono HBR.out.size)⟩
          · have hib := decide_eq_false (show ¬ (i : Int) < (n : Int) by omega)
            have hib2 := decide_eq_false hi
            go_wp2_with (first | (go_at_call 13; refine (wakes_calls _ HLR.out).mono ?_; rintro e w12 ⟨rfl, hb12⟩; have HB12 := Aside.mk hb12; clear hb12))
            go_ret
            exact ⟨rfl, HBR.out.trans (HB12.out.mono HBR.out.size)⟩
end Go.Proofs.YtbadcpaopdbgnaaDoor.Lang
