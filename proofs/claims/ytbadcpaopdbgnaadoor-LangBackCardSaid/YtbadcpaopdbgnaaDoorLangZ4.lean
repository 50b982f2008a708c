/-
  Walks: the text of ops, by the page.
-/
import Derived.Test.YtbadcpaopdbgnaaDoorLangZ2
import Derived.Test.YtbadcpaopdbgnaaDoorLangZ3
import Derived.Test.YtbadcpaopdbgnaaDoorLangV
import Derived.Deep.RegionHeld3
import Derived.Deep.RegionLaw
import Derived.BigRegion
namespace Go.Proofs.YtbadcpaopdbgnaaDoor.Lang
open Go.RowKit Go.Shelf
set_option linter.unusedVariables false
set_option linter.unusedSimpArgs false

/-- What an op's own text is, with its block's. -/
def opT (k n : Int) (b : Ops) : List UInt8 :=
  if k = 1 then Lib.itoa n else (wordOf k).data.toList ++ (if k = 28 ∨ k = 29 then [32, 91, 32] ++ (if rtG b true = [] then [] else rtG b true ++ [32]) ++ [93] else [])
theorem rt_cons (k n : Int) (b r : Ops) (f : Bool) : rtG (.cons k n b r) f = (if f then [] else [32]) ++ (opT k n b ++ rtG r false) := rfl
theorem ba_text (s : ByteArray) (l m : List UInt8) (h : s.data.toList = l) : s ++ (⟨m.toArray⟩ : ByteArray) = ⟨(l ++ m).toArray⟩ := by
  apply ByteArray.ext
  apply Array.toList_inj.mp
  rw [ByteArray.data_append]
  simp [h]
theorem size_arr' (l : List UInt8) : (⟨l.toArray⟩ : ByteArray).size = l.length := by simp [ByteArray.size]
theorem wordOf_at (j : Nat) (hj : j < 29) : wordOf (2 + (j : Int)) = wordsB[j]'hj := by
  unfold wordOf
  have : (2 + (j : Int) - 2).toNat = j := by omega
  rw [this, List.getD_eq_getElem?_getD, List.getElem?_eq_getElem (show j < wordsB.length from hj)]
  rfl
set_option maxRecDepth 100000 in
set_option maxHeartbeats 16000000 in
theorem rtext_calls : ∀ (N : Nat) (l : Ops) (v : Value) (d : Nat) (w : World), l.size < N → Rd w v l → okOps l d = true → nums l → l.size ≤ 128 → Calls Tryd.prog 16 #[v] w fun e w' => e = .returned (.string ⟨(rtG l true).toArray⟩) ∧ Below w.heap.size w w' := by
  intro N
  induction N with
  | zero => intro l v d w hN; omega
  | succ N ih =>
    intro l v d w hN h1 hok hnu hsz
    have H1 := Aside.mk h1
    have IH := Aside.mk ih
    have HS := Aside.mk hN
    have HOK := Aside.mk hok
    have HNU := Aside.mk hnu
    have HSZ := Aside.mk hsz
    have HLEN := Aside.mk (rt_len l d true hok hnu)
    obtain ⟨A1, c1, rfl, hb1, hc1⟩ := h1
    clear hc1 ih hN hok hnu hsz
    obtain ⟨n, hn⟩ : ∃ n, n = l.len := ⟨_, rfl⟩
    rw [← hn] at H1 ⊢
    have HNL := Aside.mk hn
    have hnb : n ≤ 9223372036854775807 := by omega
    clear hn hb1
    obtain ⟨T, hT⟩ : ∃ T, T = rtG l true := ⟨_, rfl⟩
    rw [← hT] at HLEN ⊢
    have HT := Aside.mk hT
    clear hT
    go_enter Tryd.func16, Tryd.ntmps16
    go_wp2
    go_loopg [3, 4] (n + 1) (fun kq v3 v4 w' => ∃ (i : Nat) (s : ByteArray), v4 = .int .i64 (i : Int) ∧ v3 = .string s ∧ Aside (i + kq = n + 1 ∧ i ≤ n) ∧ Aside (s.data.toList ++ rtG (l.drop i) (decide (i = 0)) = T) ∧ Aside (okOps (l.drop i) d = true) ∧ Aside (Below w.heap.size w w'))
    case atStart => exact ⟨0, ⟨#[]⟩, rfl, rfl, ⟨by omega⟩, ⟨by rw [drop_zero, HT.out]; rfl⟩, ⟨by rw [drop_zero]; exact HOK.out⟩, ⟨Below.refl _ _⟩⟩
    case round =>
      obtain ⟨i, s, rfl, rfl, HI, HTX, HOKI, HB⟩ := hrel
      cases gk with
      | zero => have := HI.out; omega
      | succ k1 =>
        have hss : s.size ≤ 5120 := by
          have h1 := congrArg List.length HTX.out
          rw [List.length_append] at h1
          have h2 := HLEN.out
          have h3 := HSZ.out
          have h4 : s.data.toList.length = s.size := rfl
          omega
        by_cases hi : i < n
        · have hib := decide_eq_true (show (i : Int) < (n : Int) by omega)
          have hib2 := decide_eq_true hi
          have p1 := eq_true (show 0 ≤ (i : Int) by omega)
          have q1 := eq_true (show (i : Int) < (n : Int) by omega)
          obtain ⟨⟨k, x, b⟩, hxa⟩ := Ops.get_lt (l := l) (i := i) (by have := HNL.out; omega)
          obtain ⟨ad1, _, ee, a0, a1, va, a2, hra⟩ := H1.out.get hxa
          cases ee
          obtain ⟨Ab, cb, rfl, hbb, -⟩ := id hra
          have hdr := Ops.drop_get hxa
          have hgs := Ops.get_size hxa
          have HNX := Aside.mk (nums_get HNU.out hxa)
          have hoki := HOKI.out
          have htx := HTX.out
          rw [hdr] at hoki htx
          rw [ok_cons] at hoki
          rw [rt_cons] at htx
          have HRB := Aside.mk hra
          have HGS := Aside.mk hgs
          have a0' := keep_below HB.out _ _ a0
          have a1' := keep_below HB.out _ _ a1
          have a2' := keep_below HB.out _ _ a2
          have HOK2 := Aside.mk hoki
          have HTX2 := Aside.mk htx
          clear hra hxa hgs a0 a1 a2 hdr hoki htx
          simp only at a0' a1' a2' HRB hbb HOK2 HTX2 HNX HGS
          -- the blank ahead
          obtain ⟨s1, hs1⟩ : ∃ s1 : ByteArray, s1 = if i = 0 then s else s ++ ⟨#[32]⟩ := ⟨_, rfl⟩
          have HS1 := Aside.mk (show s1.data.toList ++ (opT k x b ++ rtG (l.drop (i + 1)) false) = T by
            have := HTX2.out
            rw [hs1]
            by_cases h : i = 0
            · rw [if_pos h]
              simpa [h] using this
            · rw [if_neg h, ba_text s _ [32] rfl]
              simpa [h] using this)
          have hss1 : s1.size ≤ 5121 := by
            rw [hs1]
            split
            · omega
            · rw [ByteArray.size_append]
              have : (⟨#[32]⟩ : ByteArray).size = 1 := rfl
              omega
          have hcase : ((decide ((0 : Int) < (i : Int)) = false ∧ decide (0 < i) = false) ∧ s1 = s) ∨ ((decide ((0 : Int) < (i : Int)) = true ∧ decide (0 < i) = true) ∧ s1 = s ++ ⟨#[32]⟩) := by
            by_cases h : i = 0
            · exact .inl ⟨⟨decide_eq_false (by omega), decide_eq_false (by omega)⟩, by rw [hs1, if_pos h]⟩
            · exact .inr ⟨⟨decide_eq_true (by omega), decide_eq_true (by omega)⟩, by rw [hs1, if_neg h]⟩
          clear hs1
          have hs32 : (⟨#[32]⟩ : ByteArray).size = 1 := rfl
          rcases hcase with ⟨⟨hc, hc2⟩, hs1⟩ | ⟨⟨hc, hc2⟩, hs1⟩
          · subst hs1
            go_upto_region 7 with (fail)
            clear hc hc2 hss
            by_cases hk1 : k = 1
            · have f1 : (k == 1) = true := by simpa using hk1
              have hx := HNX.out.1
              have HDC := Aside.mk (decimal_calls x wr hx.1 hx.2)
              have hsd : (itoaB x).size ≤ 21 := by
                have := Lib.itoa_length_le x hx.1 hx.2
                unfold itoaB
                rw [size_arr']
                exact this
              have HT2 := Aside.mk (show ((s1 ++ itoaB x).data.toList ++ rtG (l.drop (i + 1)) (decide (i + 1 = 0)) = T) by
                have := HS1.out
                unfold opT at this
                rw [if_pos hk1] at this
                rw [show s1 ++ itoaB x = _ from ba_text s1 _ (Lib.itoa x) rfl, ← this]
                simp)
              clear hk1 hx
              go_wp2_with (first | (go_at_call 28; refine HDC.out.mono ?_; rintro e w5 ⟨rfl, hb⟩; have HB5 := Aside.mk hb; clear hb))
              go_roundg k1
              case measure => omega
              case rel => exact ⟨i + 1, _, by simp; done, rfl, ⟨by have := HI.out; omega⟩, HT2, ⟨HOK2.out.2.2⟩, ⟨HB.out.trans (HB5.out.mono HB.out.size)⟩⟩
            · have f1 : (k == 1) = false := by simpa using hk1
              obtain ⟨j, hj, rfl⟩ : ∃ j : Nat, j < 29 ∧ k = 2 + (j : Int) := ⟨(k - 2).toNat, by have := HOK2.out.1; omega, by have := HOK2.out.1; omega⟩
              have hwk : IntKind.i64.wrap (2 + (j : Int) - 2) = (j : Int) := by
                rw [IntKind.wrap_i64]
                omega
              have hwc : ∀ W : World, (W.alloc (.cells (wordsB.map Value.string).toArray 9)).cell? ⟨W.heap.size, j, none⟩ = some (.string (wordOf (2 + (j : Int)))) := fun W => by
                rw [wordOf_at j hj]
                exact words_cell W j hj
              have p2 := eq_true (show 0 ≤ (j : Int) by omega)
              have q2 := eq_true (show (j : Int) < 29 by omega)
              have a0b : ∀ o, (wr.alloc o).cell? (ad1.add (i * 3)) = some (.int .i64 (2 + (j : Int))) := fun o => keep_below ((Below.refl _ wr).alloc (Nat.le_refl _) o) _ _ a0'
              have hwz : (wordOf (2 + (j : Int))).size ≤ 5 := words_len _ (wordOf_mem (by omega) (by omega))
              obtain ⟨wd, hwd⟩ : ∃ wd, wd = wordOf (2 + (j : Int)) := ⟨_, rfl⟩
              rw [← hwd] at hwz
              have HWD := Aside.mk hwd
              have hwc2 : ∀ W : World, (W.alloc (.cells (wordsB.map Value.string).toArray 9)).cell? ⟨W.heap.size, j, none⟩ = some (.string wd) := fun W => by rw [hwd]; exact hwc W
              clear hwd hwc
              have hcat := eq_false (show ¬ 9223372036854775807 < s1.size + wd.size by omega)
              go_upto_region 9 with (fail)
              go_region_law (first | (go_simp; go_at_call 29; refine (refwords_calls _).mono ?_; rintro e w' ⟨rfl, rfl⟩))
              all_goals
                go_upto_region 10 with (fail)
                have HB5 := Aside.mk (below_draw' (HB.out.alloc HB.out.size (.cells (wordsB.map Value.string).toArray 9)) 1)
                have b0' : (((wr.alloc (.cells (wordsB.map Value.string).toArray 9)).drewN 1).cell? (ad1.add (i * 3))) = some (.int .i64 (2 + (j : Int))) := a0b _
                have b2' : (((wr.alloc (.cells (wordsB.map Value.string).toArray 9)).drewN 1).cell? ⟨(ad1.add (i * 3)).block, (ad1.add (i * 3)).off + 2, none⟩) = some (.slice Ab b.len cb) := keep_below ((Below.refl _ wr).alloc (Nat.le_refl _) _) _ _ a2'
                have hrb5 : Rd ((wr.alloc (.cells (wordsB.map Value.string).toArray 9)).drewN 1) (.slice Ab b.len cb) b := (HRB.out.keep (keep_below (HB.out.alloc HB.out.size (.cells (wordsB.map Value.string).toArray 9)))).drewN 1
                have ew : (wr.alloc (.cells (wordsB.map Value.string).toArray 9)).drew = (wr.alloc (.cells (wordsB.map Value.string).toArray 9)).drewN 1 := rfl
                rw [ew]
                clear ew a0b hwc2 a0' a1' a2' hwk p2 q2
                generalize (wr.alloc (.cells (wordsB.map Value.string).toArray 9)).drewN 1 = W5 at HB5 b0' b2' hrb5 ⊢
                by_cases hj26 : j = 26
                · have g1 : ((2 + (j : Int)) == 28) = true := by simp; omega
                  have HK1 := Aside.mk (show ¬ (2 + (j : Int)) = 1 by omega)
                  have HKK := Aside.mk (show (2 + (j : Int) = 28 ∨ 2 + (j : Int) = 29) by omega)
                  have hokb := (HOK2.out.2.1 HKK.out)
                  have hbsz : b.size ≤ 128 := by have := HGS.out; have := HSZ.out; omega
                  have HCB := Aside.mk (IH.out b (.slice Ab b.len cb) (d + 1) W5 (by have := HGS.out; have := HS.out; omega) hrb5 hokb.2 HNX.out.2 hbsz)
                  have hbl := rt_len b (d + 1) true hokb.2 HNX.out.2
                  have hs3 : (⟨#[32, 91, 32]⟩ : ByteArray).size = 3 := rfl
                  have hs4 : (⟨#[32]⟩ : ByteArray).size = 1 := rfl
                  have hs5 : (⟨#[93]⟩ : ByteArray).size = 1 := rfl
                  obtain ⟨tb, htb⟩ : ∃ tb : ByteArray, tb = ⟨(rtG b true).toArray⟩ := ⟨_, rfl⟩
                  have htsz : tb.size ≤ 5120 := by rw [htb, size_arr']; omega
                  have hte := tl_empty htb
                  have HTB := Aside.mk htb
                  rw [← htb] at HCB
                  clear htb hbl hokb hbsz hrb5
                  have hopT : opT (2 + (j : Int)) x b = wd.data.toList ++ ([32, 91, 32] ++ (if rtG b true = [] then [] else rtG b true ++ [32]) ++ [93]) := by
                    unfold opT
                    rw [if_neg HK1.out, if_pos HKK.out, ← HWD.out]
                  by_cases hemp : rtG b true = []
                  · have hte2 : tb.toList.isEmpty = true := by rw [hte, hemp]; rfl
                    have HT3 := Aside.mk (show (s1 ++ wd ++ (⟨#[32, 91, 32]⟩ : ByteArray) ++ (⟨#[93]⟩ : ByteArray)).data.toList ++ rtG (l.drop (i + 1)) (decide (i + 1 = 0)) = T by
                      rw [← HS1.out, hopT, if_pos hemp]
                      simp [ByteArray.data_append])
                    clear hte hemp hopT
                    go_wp2_with (first | (go_at_call 16; refine HCB.out.mono ?_; rintro e w6 ⟨rfl, hb⟩; have HB6 := Aside.mk hb; clear hb))
                    go_roundg k1
                    case measure => omega
                    case rel => exact ⟨i + 1, _, by simp; done, rfl, ⟨by have := HI.out; omega⟩, HT3, ⟨HOK2.out.2.2⟩, ⟨HB5.out.trans (HB6.out.mono HB5.out.size)⟩⟩
                  · have hte2 : tb.toList.isEmpty = false := by
                      rw [hte]
                      cases h : rtG b true with
                      | nil => exact absurd h hemp
                      | cons _ _ => rfl
                    have HT3 := Aside.mk (show (s1 ++ wd ++ (⟨#[32, 91, 32]⟩ : ByteArray) ++ tb ++ (⟨#[32]⟩ : ByteArray) ++ (⟨#[93]⟩ : ByteArray)).data.toList ++ rtG (l.drop (i + 1)) (decide (i + 1 = 0)) = T by
                      rw [← HS1.out, hopT, if_neg hemp, HTB.out]
                      simp [ByteArray.data_append])
                    clear hte hemp hopT
                    go_wp2_with (first | (go_at_call 16; refine HCB.out.mono ?_; rintro e w6 ⟨rfl, hb⟩; have HB6 := Aside.mk hb; clear hb))
                    go_roundg k1
                    case measure => omega
                    case rel => exact ⟨i + 1, _, by simp; done, rfl, ⟨by have := HI.out; omega⟩, HT3, ⟨HOK2.out.2.2⟩, ⟨HB5.out.trans (HB6.out.mono HB5.out.size)⟩⟩
                · have g1 : ((2 + (j : Int)) == 28) = false := by simp; omega
                  by_cases hj27 : j = 27
                  · have g2 : ((2 + (j : Int)) == 29) = true := by simp; omega
                    have HK1 := Aside.mk (show ¬ (2 + (j : Int)) = 1 by omega)
                    have HKK := Aside.mk (show (2 + (j : Int) = 28 ∨ 2 + (j : Int) = 29) by omega)
                    have hokb := (HOK2.out.2.1 HKK.out)
                    have hbsz : b.size ≤ 128 := by have := HGS.out; have := HSZ.out; omega
                    have HCB := Aside.mk (IH.out b (.slice Ab b.len cb) (d + 1) W5 (by have := HGS.out; have := HS.out; omega) hrb5 hokb.2 HNX.out.2 hbsz)
                    have hbl := rt_len b (d + 1) true hokb.2 HNX.out.2
                    have hs3 : (⟨#[32, 91, 32]⟩ : ByteArray).size = 3 := rfl
                    have hs4 : (⟨#[32]⟩ : ByteArray).size = 1 := rfl
                    have hs5 : (⟨#[93]⟩ : ByteArray).size = 1 := rfl
                    obtain ⟨tb, htb⟩ : ∃ tb : ByteArray, tb = ⟨(rtG b true).toArray⟩ := ⟨_, rfl⟩
                    have htsz : tb.size ≤ 5120 := by rw [htb, size_arr']; omega
                    have hte := tl_empty htb
                    have HTB := Aside.mk htb
                    rw [← htb] at HCB
                    clear htb hbl hokb hbsz hrb5
                    have hopT : opT (2 + (j : Int)) x b = wd.data.toList ++ ([32, 91, 32] ++ (if rtG b true = [] then [] else rtG b true ++ [32]) ++ [93]) := by
                      unfold opT
                      rw [if_neg HK1.out, if_pos HKK.out, ← HWD.out]
                    by_cases hemp : rtG b true = []
                    · have hte2 : tb.toList.isEmpty = true := by rw [hte, hemp]; rfl
                      have HT3 := Aside.mk (show (s1 ++ wd ++ (⟨#[32, 91, 32]⟩ : ByteArray) ++ (⟨#[93]⟩ : ByteArray)).data.toList ++ rtG (l.drop (i + 1)) (decide (i + 1 = 0)) = T by
                        rw [← HS1.out, hopT, if_pos hemp]
                        simp [ByteArray.data_append])
                      clear hte hemp hopT
                      go_wp2_with (first | (go_at_call 16; refine HCB.out.mono ?_; rintro e w6 ⟨rfl, hb⟩; have HB6 := Aside.mk hb; clear hb))
                      go_roundg k1
                      case measure => omega
                      case rel => exact ⟨i + 1, _, by simp; done, rfl, ⟨by have := HI.out; omega⟩, HT3, ⟨HOK2.out.2.2⟩, ⟨HB5.out.trans (HB6.out.mono HB5.out.size)⟩⟩
                    · have hte2 : tb.toList.isEmpty = false := by
                        rw [hte]
                        cases h : rtG b true with
                        | nil => exact absurd h hemp
                        | cons _ _ => rfl
                      have HT3 := Aside.mk (show (s1 ++ wd ++ (⟨#[32, 91, 32]⟩ : ByteArray) ++ tb ++ (⟨#[32]⟩ : ByteArray) ++ (⟨#[93]⟩ : ByteArray)).data.toList ++ rtG (l.drop (i + 1)) (decide (i + 1 = 0)) = T by
                        rw [← HS1.out, hopT, if_neg hemp, HTB.out]
                        simp [ByteArray.data_append])
                      clear hte hemp hopT
                      go_wp2_with (first | (go_at_call 16; refine HCB.out.mono ?_; rintro e w6 ⟨rfl, hb⟩; have HB6 := Aside.mk hb; clear hb))
                      go_roundg k1
                      case measure => omega
                      case rel => exact ⟨i + 1, _, by simp; done, rfl, ⟨by have := HI.out; omega⟩, HT3, ⟨HOK2.out.2.2⟩, ⟨HB5.out.trans (HB6.out.mono HB5.out.size)⟩⟩
                  · have g2 : ((2 + (j : Int)) == 29) = false := by simp; omega
                    have HT2 := Aside.mk (show (s1 ++ wd).data.toList ++ rtG (l.drop (i + 1)) (decide (i + 1 = 0)) = T by
                      rw [← HS1.out]
                      unfold opT
                      rw [if_neg (by omega), if_neg (by omega), ← HWD.out]
                      simp [ByteArray.data_append])
                    go_wp2
                    go_roundg k1
                    case measure => omega
                    case rel => exact ⟨i + 1, _, by simp; done, rfl, ⟨by have := HI.out; omega⟩, HT2, ⟨HOK2.out.2.2⟩, HB5⟩
          · subst hs1
            go_upto_region 7 with (fail)
            clear hc hc2
            generalize s ++ (⟨#[32]⟩ : ByteArray) = s1 at HS1 hss1 ⊢
            clear hss
            by_cases hk1 : k = 1
            · have f1 : (k == 1) = true := by simpa using hk1
              have hx := HNX.out.1
              have HDC := Aside.mk (decimal_calls x wr hx.1 hx.2)
              have hsd : (itoaB x).size ≤ 21 := by
                have := Lib.itoa_length_le x hx.1 hx.2
                unfold itoaB
                rw [size_arr']
                exact this
              have HT2 := Aside.mk (show ((s1 ++ itoaB x).data.toList ++ rtG (l.drop (i + 1)) (decide (i + 1 = 0)) = T) by
                have := HS1.out
                unfold opT at this
                rw [if_pos hk1] at this
                rw [show s1 ++ itoaB x = _ from ba_text s1 _ (Lib.itoa x) rfl, ← this]
                simp)
              clear hk1 hx
              go_wp2_with (first | (go_at_call 28; refine HDC.out.mono ?_; rintro e w5 ⟨rfl, hb⟩; have HB5 := Aside.mk hb; clear hb))
              go_roundg k1
              case measure => omega
              case rel => exact ⟨i + 1, _, by simp; done, rfl, ⟨by have := HI.out; omega⟩, HT2, ⟨HOK2.out.2.2⟩, ⟨HB.out.trans (HB5.out.mono HB.out.size)⟩⟩
            · have f1 : (k == 1) = false := by simpa using hk1
              obtain ⟨j, hj, rfl⟩ : ∃ j : Nat, j < 29 ∧ k = 2 + (j : Int) := ⟨(k - 2).toNat, by have := HOK2.out.1; omega, by have := HOK2.out.1; omega⟩
              have hwk : IntKind.i64.wrap (2 + (j : Int) - 2) = (j : Int) := by
                rw [IntKind.wrap_i64]
                omega
              have hwc : ∀ W : World, (W.alloc (.cells (wordsB.map Value.string).toArray 9)).cell? ⟨W.heap.size, j, none⟩ = some (.string (wordOf (2 + (j : Int)))) := fun W => by
                rw [wordOf_at j hj]
                exact words_cell W j hj
              have p2 := eq_true (show 0 ≤ (j : Int) by omega)
              have q2 := eq_true (show (j : Int) < 29 by omega)
              have a0b : ∀ o, (wr.alloc o).cell? (ad1.add (i * 3)) = some (.int .i64 (2 + (j : Int))) := fun o => keep_below ((Below.refl _ wr).alloc (Nat.le_refl _) o) _ _ a0'
              have hwz : (wordOf (2 + (j : Int))).size ≤ 5 := words_len _ (wordOf_mem (by omega) (by omega))
              obtain ⟨wd, hwd⟩ : ∃ wd, wd = wordOf (2 + (j : Int)) := ⟨_, rfl⟩
              rw [← hwd] at hwz
              have HWD := Aside.mk hwd
              have hwc2 : ∀ W : World, (W.alloc (.cells (wordsB.map Value.string).toArray 9)).cell? ⟨W.heap.size, j, none⟩ = some (.string wd) := fun W => by rw [hwd]; exact hwc W
              clear hwd hwc
              have hcat := eq_false (show ¬ 9223372036854775807 < s1.size + wd.size by omega)
              go_upto_region 9 with (fail)
              go_region_law (first | (go_simp; go_at_call 29; refine (refwords_calls _).mono ?_; rintro e w' ⟨rfl, rfl⟩))
              all_goals
                go_upto_region 10 with (fail)
                have HB5 := Aside.mk (below_draw' (HB.out.alloc HB.out.size (.cells (wordsB.map Value.string).toArray 9)) 1)
                have b0' : (((wr.alloc (.cells (wordsB.map Value.string).toArray 9)).drewN 1).cell? (ad1.add (i * 3))) = some (.int .i64 (2 + (j : Int))) := a0b _
                have b2' : (((wr.alloc (.cells (wordsB.map Value.string).toArray 9)).drewN 1).cell? ⟨(ad1.add (i * 3)).block, (ad1.add (i * 3)).off + 2, none⟩) = some (.slice Ab b.len cb) := keep_below ((Below.refl _ wr).alloc (Nat.le_refl _) _) _ _ a2'
                have hrb5 : Rd ((wr.alloc (.cells (wordsB.map Value.string).toArray 9)).drewN 1) (.slice Ab b.len cb) b := (HRB.out.keep (keep_below (HB.out.alloc HB.out.size (.cells (wordsB.map Value.string).toArray 9)))).drewN 1
                have ew : (wr.alloc (.cells (wordsB.map Value.string).toArray 9)).drew = (wr.alloc (.cells (wordsB.map Value.string).toArray 9)).drewN 1 := rfl
                rw [ew]
                clear ew a0b hwc2 a0' a1' a2' hwk p2 q2
                generalize (wr.alloc (.cells (wordsB.map Value.string).toArray 9)).drewN 1 = W5 at HB5 b0' b2' hrb5 ⊢
                by_cases hj26 : j = 26
                · have g1 : ((2 + (j : Int)) == 28) = true := by simp; omega
                  have HK1 := Aside.mk (show ¬ (2 + (j : Int)) = 1 by omega)
                  have HKK := Aside.mk (show (2 + (j : Int) = 28 ∨ 2 + (j : Int) = 29) by omega)
                  have hokb := (HOK2.out.2.1 HKK.out)
                  have hbsz : b.size ≤ 128 := by have := HGS.out; have := HSZ.out; omega
                  have HCB := Aside.mk (IH.out b (.slice Ab b.len cb) (d + 1) W5 (by have := HGS.out; have := HS.out; omega) hrb5 hokb.2 HNX.out.2 hbsz)
                  have hbl := rt_len b (d + 1) true hokb.2 HNX.out.2
                  have hs3 : (⟨#[32, 91, 32]⟩ : ByteArray).size = 3 := rfl
                  have hs4 : (⟨#[32]⟩ : ByteArray).size = 1 := rfl
                  have hs5 : (⟨#[93]⟩ : ByteArray).size = 1 := rfl
                  obtain ⟨tb, htb⟩ : ∃ tb : ByteArray, tb = ⟨(rtG b true).toArray⟩ := ⟨_, rfl⟩
                  have htsz : tb.size ≤ 5120 := by rw [htb, size_arr']; omega
                  have hte := tl_empty htb
                  have HTB := Aside.mk htb
                  rw [← htb] at HCB
                  clear htb hbl hokb hbsz hrb5
                  have hopT : opT (2 + (j : Int)) x b = wd.data.toList ++ ([32, 91, 32] ++ (if rtG b true = [] then [] else rtG b true ++ [32]) ++ [93]) := by
                    unfold opT
                    rw [if_neg HK1.out, if_pos HKK.out, ← HWD.out]
                  by_cases hemp : rtG b true = []
                  · have hte2 : tb.toList.isEmpty = true := by rw [hte, hemp]; rfl
                    have HT3 := Aside.mk (show (s1 ++ wd ++ (⟨#[32, 91, 32]⟩ : ByteArray) ++ (⟨#[93]⟩ : ByteArray)).data.toList ++ rtG (l.drop (i + 1)) (decide (i + 1 = 0)) = T by
                      rw [← HS1.out, hopT, if_pos hemp]
                      simp [ByteArray.data_append])
                    clear hte hemp hopT
                    go_wp2_with (first | (go_at_call 16; refine HCB.out.mono ?_; rintro e w6 ⟨rfl, hb⟩; have HB6 := Aside.mk hb; clear hb))
                    go_roundg k1
                    case measure => omega
                    case rel => exact ⟨i + 1, _, by simp; done, rfl, ⟨by have := HI.out; omega⟩, HT3, ⟨HOK2.out.2.2⟩, ⟨HB5.out.trans (HB6.out.mono HB5.out.size)⟩⟩
                  · have hte2 : tb.toList.isEmpty = false := by
                      rw [hte]
                      cases h : rtG b true with
                      | nil => exact absurd h hemp
                      | cons _ _ => rfl
                    have HT3 := Aside.mk (show (s1 ++ wd ++ (⟨#[32, 91, 32]⟩ : ByteArray) ++ tb ++ (⟨#[32]⟩ : ByteArray) ++ (⟨#[93]⟩ : ByteArray)).data.toList ++ rtG (l.drop (i + 1)) (decide (i + 1 = 0)) = T by
                      rw [← HS1.out, hopT, if_neg hemp, HTB.out]
                      simp [ByteArray.data_append])
                    clear hte hemp hopT
                    go_wp2_with (first | (go_at_call 16; refine HCB.out.mono ?_; rintro e w6 ⟨rfl, hb⟩; have HB6 := Aside.mk hb; clear hb))
                    go_roundg k1
                    case measure => omega
                    case rel => exact ⟨i + 1, _, by simp; done, rfl, ⟨by have := HI.out; omega⟩, HT3, ⟨HOK2.out.2.2⟩, ⟨HB5.out.trans (HB6.out.mono HB5.out.size)⟩⟩
                · have g1 : ((2 + (j : Int)) == 28) = false := by simp; omega
                  by_cases hj27 : j = 27
                  · have g2 : ((2 + (j : Int)) == 29) = true := by simp; omega
                    have HK1 := Aside.mk (show ¬ (2 + (j : Int)) = 1 by omega)
                    have HKK := Aside.mk (show (2 + (j : Int) = 28 ∨ 2 + (j : Int) = 29) by omega)
                    have hokb := (HOK2.out.2.1 HKK.out)
                    have hbsz : b.size ≤ 128 := by have := HGS.out; have := HSZ.out; omega
                    have HCB := Aside.mk (IH.out b (.slice Ab b.len cb) (d + 1) W5 (by have := HGS.out; have := HS.out; omega) hrb5 hokb.2 HNX.out.2 hbsz)
                    have hbl := rt_len b (d + 1) true hokb.2 HNX.out.2
                    have hs3 : (⟨#[32, 91, 32]⟩ : ByteArray).size = 3 := rfl
                    have hs4 : (⟨#[32]⟩ : ByteArray).size = 1 := rfl
                    have hs5 : (⟨#[93]⟩ : ByteArray).size = 1 := rfl
                    obtain ⟨tb, htb⟩ : ∃ tb : ByteArray, tb = ⟨(rtG b true).toArray⟩ := ⟨_, rfl⟩
                    have htsz : tb.size ≤ 5120 := by rw [htb, size_arr']; omega
                    have hte := tl_empty htb
                    have HTB := Aside.mk htb
                    rw [← htb] at HCB
                    clear htb hbl hokb hbsz hrb5
                    have hopT : opT (2 + (j : Int)) x b = wd.data.toList ++ ([32, 91, 32] ++ (if rtG b true = [] then [] else rtG b true ++ [32]) ++ [93]) := by
                      unfold opT
                      rw [if_neg HK1.out, if_pos HKK.out, ← HWD.out]
                    by_cases hemp : rtG b true = []
                    · have hte2 : tb.toList.isEmpty = true := by rw [hte, hemp]; rfl
                      have HT3 := Aside.mk (show (s1 ++ wd ++ (⟨#[32, 91, 32]⟩ : ByteArray) ++ (⟨#[93]⟩ : ByteArray)).data.toList ++ rtG (l.drop (i + 1)) (decide (i + 1 = 0)) = T by
                        rw [← HS1.out, hopT, if_pos hemp]
                        simp [ByteArray.data_append])
                      clear hte hemp hopT
                      go_wp2_with (first | (go_at_call 16; refine HCB.out.mono ?_; rintro e w6 ⟨rfl, hb⟩; have HB6 := Aside.mk hb; clear hb))
                      go_roundg k1
                      case measure => omega
                      case rel => exact ⟨i + 1, _, by simp; done, rfl, ⟨by have := HI.out; omega⟩, HT3, ⟨HOK2.out.2.2⟩, ⟨HB5.out.trans (HB6.out.mono HB5.out.size)⟩⟩
                    · have hte2 : tb.toList.isEmpty = false := by
                        rw [hte]
                        cases h : rtG b true with
                        | nil => exact absurd h hemp
                        | cons _ _ => rfl
                      have HT3 := Aside.mk (show (s1 ++ wd ++ (⟨#[32, 91, 32]⟩ : ByteArray) ++ tb ++ (⟨#[32]⟩ : ByteArray) ++ (⟨#[93]⟩ : ByteArray)).data.toList ++ rtG (l.drop (i + 1)) (decide (i + 1 = 0)) = T by
                        rw [← HS1.out, hopT, if_neg hemp, HTB.out]
                        simp [ByteArray.data_append])
                      clear hte hemp hopT
                      go_wp2_with (first | (go_at_call 16; refine HCB.out.mono ?_; rintro e w6 ⟨rfl, hb⟩; have HB6 := Aside.mk hb; clear hb))
                      go_roundg k1
                      case measure => omega
                      case rel => exact ⟨i + 1, _, by simp; done, rfl, ⟨by have := HI.out; omega⟩, HT3, ⟨HOK2.out.2.2⟩, ⟨HB5.out.trans (HB6.out.mono HB5.out.size)⟩⟩
                  · have g2 : ((2 + (j : Int)) == 29) = false := by simp; omega
                    have HT2 := Aside.mk (show (s1 ++ wd).data.toList ++ rtG (l.drop (i + 1)) (decide (i + 1 = 0)) = T by
                      rw [← HS1.out]
                      unfold opT
                      rw [if_neg (by omega), if_neg (by omega), ← HWD.out]
                      simp [ByteArray.data_append])
                    go_wp2
                    go_roundg k1
                    case measure => omega
                    case rel => exact ⟨i + 1, _, by simp; done, rfl, ⟨by have := HI.out; omega⟩, HT2, ⟨HOK2.out.2.2⟩, HB5⟩
        · have hib := decide_eq_false (show ¬ (i : Int) < (n : Int) by omega)
          have hib2 := decide_eq_false hi
          have HRE := Aside.mk (show s = ⟨T.toArray⟩ by
            have := HTX.out
            rw [Ops.drop_all (by have := HNL.out; omega)] at this
            simp only [rtG, List.append_nil] at this
            rw [← this])
          go_wp2
          go_ret
          exact ⟨by rw [← HRE.out]; rfl, HB.out⟩
end Go.Proofs.YtbadcpaopdbgnaaDoor.Lang
