/-
  The walk of the statement LangParses.
-/
import Derived.Test.YtbadcpaopdbgnaaDoorLangW
import Derived.Test.YtbadcpaopdbgnaaDoorLangP
import Derived.Test.YtbadcpaopdbgnaaDoorLangL
namespace Go.Proofs.YtbadcpaopdbgnaaDoor.Lang
open Go.RowKit Go.Shelf
set_option linter.unusedVariables false
set_option linter.unusedSimpArgs false

theorem Laid.pos {w : World} (h : Laid w) : 0 < w.heap.size := by
  rcases Nat.eq_zero_or_pos w.heap.size with h0 | h0
  · exfalso
    have h1 := h.sp
    unfold Lib.TabIs World.var? at h1
    cases hg : Tryd.prog.globalNamed "strings.asciiSpace" with
    | none => simp [hg] at h1
    | some g => simp [hg, Array.getElem?_eq_none (show w.heap.size ≤ g by omega)] at h1
  · exact h0
/-- What a parse leaves, in one form: the ops, and where they lie. -/
def Got (s : ByteArray) (e : Ending) (v : Value) (c : Int) : Prop := e = .returned (.tuple #[v, .int .i64 c])
theorem parse_one (s : ByteArray) (w : World) (hL : Laid w) : Calls Tryd.prog 8 #[.string s] w fun e w' => Below w.heap.size w w' ∧ ∃ (l : Ops) (v : Value) (c : Int) (F : List Nat), e = .returned (.tuple #[v, .int .i64 c]) ∧ SliceAt w' w.heap.size l v F ∧ F.Nodup ∧ ((parsed s = .error c ∧ l = .nil) ∨ (parsed s = .ok l ∧ c = 0)) :=
  (parse_calls s w hL).mono fun e w' ⟨hb, he, ho⟩ => by
    refine ⟨hb, ?_⟩
    cases hp : parsed s with
    | error c => exact ⟨.nil, _, c, [], he c hp, SliceAt.nil _ _, List.nodup_nil, .inl ⟨rfl, rfl⟩⟩
    | ok l => obtain ⟨v, F, he', hs, hn⟩ := ho l hp; exact ⟨l, v, 0, F, he', hs, hn, .inr ⟨rfl, rfl⟩⟩
theorem refparse_one (s : ByteArray) (w : World) (hpos : 0 < w.heap.size) (l : Ops) (c : Int) (h : (parsed s = .error c ∧ l = .nil) ∨ (parsed s = .ok l ∧ c = 0)) : Calls Tryd.prog 9 #[.string s] w fun e w' => Below w.heap.size w w' ∧ ∃ (v : Value), e = .returned (.tuple #[v, .int .i64 c]) ∧ Rd w' v l :=
  (refparse_calls s w hpos).mono fun e w' hr => by
    refine ⟨hr.below, ?_⟩
    rcases h with ⟨h, rfl⟩ | ⟨h, rfl⟩
    · exact ⟨_, hr.err c (by rw [refParsed_eq]; exact h), none, 0, rfl, by simp [Ops.len], fun h => by simp [Ops.len] at h⟩
    · exact hr.ok l (by rw [refParsed_eq]; exact h)
set_option maxRecDepth 100000 in
set_option maxHeartbeats 8000000 in
theorem parses_calls (LS : List ByteArray) (LO : Ops) (vS vL : Value) (w : World) (hL : Laid w) (hS : RdS w vS LS) (hO : Rd w vL LO) : Calls Tryd.prog 3 #[.agg #[vS, vL]] w fun e w' => e = .returned (.bool true) ∧ Below w.heap.size w w' := by
  obtain ⟨A, c, rfl, hlb, hcs⟩ := id hS
  obtain ⟨A2, c2, rfl, -, -⟩ := id hO
  obtain ⟨n, hn⟩ : ∃ n, n = LS.length := ⟨_, rfl⟩
  have HCS := Aside.mk hcs
  have HS := Aside.mk hS
  have HO := Aside.mk hO
  have HL := Aside.mk hL
  rw [← hn] at HS hlb ⊢
  have HN := Aside.mk hn
  clear hcs hS hO hL hn
  go_enter Tryd.func3, Tryd.ntmps3
  have HBX := Aside.mk (heap_alloc_new w (.cells #[.slice A n c, .slice A2 LO.len c2] 25))
  have HB0 := Aside.mk ((Below.refl _ w).alloc (Nat.le_refl _) (.cells #[.slice A n c, .slice A2 LO.len c2] 25))
  go_wp2_with (first | (go_at_call 7; refine (heavy_calls LS LO _ _ _ (HS.out.keep (keep_below HB0.out)) (HO.out.keep (keep_below HB0.out))).mono ?_; rintro e w1 ⟨⟨hv, rfl⟩, hb⟩; have HB1 := Aside.mk hb; clear hb))
  · go_ret
    exact ⟨rfl, HB0.out.trans (HB1.out.mono HB0.out.size)⟩
  · obtain rfl : hv = false := by first | assumption | (simp only [Bool.not_eq_true] at *; assumption)
    obtain ⟨b0, hb0⟩ : ∃ b0, b0 = w.heap.size := ⟨_, rfl⟩
    have HBX1 := Aside.mk ((HB1.out.block b0 (by rw [hb0]; simp)).trans (hb0 ▸ HBX.out))
    have HBB := Aside.mk (HB0.out.trans (HB1.out.mono HB0.out.size))
    rw [← hb0]
    clear HB0 HBX HB1
    have HB0' := Aside.mk hb0
    clear hb0
    go_loopg [3] (n + 11) (fun kq v3 w' => ∃ (i : Nat), v3 = .int .i64 (i : Int) ∧ Aside (i + kq = n + 11 ∧ i ≤ n ∧ i ≤ 10) ∧ Aside (Below w1.heap.size w1 w'))
    case atStart => exact ⟨0, rfl, ⟨by omega⟩, ⟨Below.refl _ _⟩⟩
    case round =>
      obtain ⟨i, rfl, HI, HBW⟩ := hrel
      cases gk with
      | zero => have := HI.out; omega
      | succ k1 =>
        have hbx := (HBW.out.block b0 (blk_lt' HBX1.out)).trans HBX1.out
        have c0 := cell_of_row wr b0 0 _ 25 _ hbx
        have HBR := Aside.mk (HBB.out.trans (HBW.out.mono HBB.out.size))
        have HLR := Aside.mk (HL.out.below HBR.out)
        clear hbx
        by_cases hi : i < n
        · have hib := decide_eq_true (show (i : Int) < (n : Int) by omega)
          have hib2 := decide_eq_true hi
          by_cases hi10 : i < 10
          · have hjb := decide_eq_true (show (i : Int) < 10 by omega)
            have hjb2 := decide_eq_true hi10
            have p1 := eq_true (show 0 ≤ (i : Int) by omega)
            have q1 := eq_true (show (i : Int) < (n : Int) by omega)
            obtain ⟨ad, rfl, hx⟩ := HCS.out i (by have := HN.out; omega)
            obtain ⟨x, hxx⟩ : ∃ x, x = LS[i]'(by have := HN.out; omega) := ⟨_, rfl⟩
            rw [← hxx] at hx
            have HX := Aside.mk hx
            have hxr := (keep_below HBR.out) _ _ hx
            clear hxx hx
            go_upto_region 7 with (first | (go_at_call 8; refine (parse_one x _ HLR.out).mono ?_; rintro e w2 ⟨hb, l, v, c, F, rfl, hs, hn, hp⟩; have c0' := (hb.cell (p := ⟨b0, 0, none⟩) (Nat.lt_of_lt_of_le (blk_lt' HBX1.out) HBW.out.size)).trans c0; have hx2 := (keep_below (HBR.out.trans (hb.mono HBR.out.size))) _ _ HX.out; have HB2 := Aside.mk hb; have HS2 := Aside.mk hs; have HN2 := Aside.mk hn; have HP2 := Aside.mk hp; clear hb hs hn hp))
            have hcc : (c != c) = false := by simp
            have HL2 := Aside.mk (HLR.out.below HB2.out)
            have heq : ∀ (v' : Value) (W : World), Rd W v l → Rd W v' l → Calls Tryd.prog 11 #[v, v'] W fun e w' => e = .returned (.bool true) ∧ ∃ q, w' = W.drewN q := fun v' W h1 h2 => by
              have := eq_calls (l.size + 1) l l v v' W (Nat.lt_succ_self _) h1 h2
              rwa [decide_eq_true rfl] at this
            have HEQ := Aside.mk heq
            clear heq
            go_wp2_with (first
              | (go_at_call 9; refine (refparse_one x _ HL2.out.pos l c HP2.out).mono ?_; rintro e w3 ⟨hb, v', rfl, hr⟩; have HS3 := Aside.mk (HS2.out.frame (fun g hg => hb.block g (HS2.out.mem g hg).2)); have HB3 := Aside.mk hb; have HR3 := Aside.mk hr; clear hb hr)
              | (go_at_call 10; refine (num_calls _ _).mono ?_; rintro e w' ⟨rfl, hw'⟩; replace hw' := hw'.symm; subst hw')
              | (go_at_call 11; refine (HEQ.out _ _ HS3.out.rd HR3.out).mono ?_; rintro e w4 ⟨rfl, q4, rfl⟩)
              | (go_at_call 12; refine (spoil_calls (l.size + 1) l v (w3.drewN q4) wr.heap.size F (Nat.lt_succ_self _) (HS3.out.frame (fun g hg => rfl)) HN2.out).mono ?_; rintro e w5 ⟨rfl, hu⟩; have HU5 := Aside.mk hu; clear hu))
            go_roundg k1
            case measure => omega
            case rel => exact ⟨i + 1, by simp; done, ⟨by have := HI.out; omega, by omega, by omega⟩, ⟨HBW.out.trans (((HB2.out.trans (HB3.out.mono HB2.out.size)).trans ((Upd.drewN w3 q4 F).trans HU5.out (fun g hg _ => hg) |>.below (Nat.le_trans HB2.out.size HB3.out.size) (fun g hg => (HS2.out.mem g hg).1))).mono HBW.out.size)⟩⟩
          · have hjb := decide_eq_false (show ¬ (i : Int) < 10 by omega)
            have hjb2 := decide_eq_false hi10
            go_wp2_with (first | (go_at_call 13; refine (wakes_calls _ HLR.out).mono ?_; rintro e w12 ⟨rfl, hb12⟩; have HB12 := Aside.mk hb12; clear hb12))
            go_ret
            exact ⟨rfl, HBR.out.trans (HB12.out.mono HBR.out.size)⟩
        · have hib := decide_eq_false (show ¬ (i : Int) < (n : Int) by omega)
          have hib2 := decide_eq_false hi
          go_wp2_with (first | (go_at_call 13; refine (wakes_calls _ HLR.out).mono ?_; rintro e w12 ⟨rfl, hb12⟩; have HB12 := Aside.mk hb12; clear hb12))
          go_ret
          exact ⟨rfl, HBR.out.trans (HB12.out.mono HBR.out.size)⟩
end Go.Proofs.YtbadcpaopdbgnaaDoor.Lang
