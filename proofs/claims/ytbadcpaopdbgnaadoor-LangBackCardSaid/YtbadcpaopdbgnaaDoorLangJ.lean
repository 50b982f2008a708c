/-
  Walks over package lang: a text is parsed.
-/
import Derived.Test.YtbadcpaopdbgnaaDoorLangI
namespace Go.Proofs.YtbadcpaopdbgnaaDoor.Lang
open Go.RowKit Go.Shelf
set_option linter.unusedVariables false
set_option linter.unusedSimpArgs false

def isPart (r : Nat) : Bool := r == 32 || r == 10
theorem parted_pays (w : World) : PredAtRunes Tryd.prog 23 #[] isPart w := fun W r hr hb => by
  unfold FnGives
  by_cases h1 : r = 32
  · subst h1
    go_enter Tryd.func23, Tryd.ntmps23
    go_wp2
    go_ret
    exact ⟨rfl, 0, rfl⟩
  · by_cases h2 : r = 10
    · subst h2
      go_enter Tryd.func23, Tryd.ntmps23
      go_wp2
      go_ret
      exact ⟨rfl, 0, rfl⟩
    · have e : isPart r = false := by simp [isPart, h1, h2]
      have h1b : ((r : Int) == 32) = false := by simp; omega
      have h2b : ((r : Int) == 10) = false := by simp; omega
      rw [e]
      clear e h1 h2
      go_enter Tryd.func23, Tryd.ntmps23
      go_wp2
      go_ret
      exact ⟨rfl, 0, rfl⟩

/-- The words of a text. -/
def wordsOf (s : ByteArray) : List ByteArray := Lib.goFieldsP isPart s
def st0 : St := ⟨[.nil], [], false, 0⟩
/-- What a text is. -/
def parsed (s : ByteArray) : Except Int Ops :=
  if 512 < s.size then .error 2
  else match (wordsOf s).foldlM wd st0 with
    | .error c => .error c
    | .ok st => if st.heads ≠ [] then .error 6 else match st.opens with
      | [l] => .ok l
      | _ => .error 7

theorem wd_err {st : St} {s : ByteArray} {c : Int} (h : wd st s = .error c) : c = 7 ∨ c = 2 := by
  unfold wd at h
  repeat' split at h
  all_goals first
    | (cases h; simp; done)
    | cases h
theorem fold_snoc {ws : List ByteArray} {j : Nat} {x : ByteArray} (hx : ws[j]? = some x) {st : St} (h : (ws.take j).foldlM wd st0 = .ok st) : (ws.take (j + 1)).foldlM wd st0 = wd st x := by
  rw [List.take_add_one, hx, Option.toList_some, List.foldlM_append, h]
  simp [bind, Except.bind]
  cases wd st x <;> rfl
theorem fold_fail {ws : List ByteArray} {j : Nat} {x : ByteArray} (hx : ws[j]? = some x) {st : St} {c : Int} (h : (ws.take j).foldlM wd st0 = .ok st) (hw : wd st x = .error c) : ws.foldlM wd st0 = .error c := by
  have e : ws = ws.take (j + 1) ++ ws.drop (j + 1) := (List.take_append_drop _ _).symm
  rw [e, List.foldlM_append, fold_snoc hx h, hw]
  rfl

theorem word_size {s x : ByteArray} (h : x ∈ wordsOf s) : x.size ≤ s.size := by
  unfold wordsOf Lib.goFieldsP at h
  obtain ⟨p, -, rfl⟩ := List.mem_map.mp h
  rw [ByteArray.size_extract]
  omega
theorem own_maxlen {w : World} {B e size g n c : Nat} {xs : List Value} (h : w.ownsRow B e size (.slice (some ⟨g, 0, none⟩) n c) n xs) : n ≤ 9223372036854775807 := by
  rcases h.2 with ⟨h', _⟩ | ⟨g', cap', cur, h', _, _, hnc, hm, _⟩
  · simp at h'
  · simp only [Value.slice.injEq] at h'
    unfold maxLen at hm
    omega
theorem inv0 : Inv st0 := ⟨rfl, by decide, by decide, by decide, by decide⟩

set_option maxRecDepth 100000 in
set_option maxHeartbeats 4000000 in
theorem parse_calls (s : ByteArray) (w : World) (hL : Laid w) : Calls Tryd.prog 8 #[.string s] w fun e w' => Below w.heap.size w w' ∧ (∀ c, parsed s = .error c → e = .returned (.tuple #[.slice none 0 0, .int .i64 c])) ∧
    (∀ l, parsed s = .ok l → ∃ v F, e = .returned (.tuple #[v, .int .i64 0]) ∧ SliceAt w' w.heap.size l v F ∧ F.Nodup) := by
  by_cases hsz : 512 < s.size
  · have hpd : parsed s = .error 2 := by unfold parsed; rw [if_pos hsz]
    have HPD := Aside.mk hpd
    have b1 : decide ((512 : Int) < (s.size : Int)) = true := decide_eq_true (by omega)
    have b2 : decide (512 < s.size) = true := decide_eq_true hsz
    clear hpd hsz
    go_enter Tryd.func8, Tryd.ntmps8
    go_wp2
    go_ret2
    exact ⟨Below.refl _ _, fun c h => by rw [HPD.out] at h; cases h; rfl, fun l h => by rw [HPD.out] at h; cases h⟩
  · have b1 : decide ((512 : Int) < (s.size : Int)) = false := decide_eq_false (by omega)
    have b2 : decide (512 < s.size) = false := decide_eq_false hsz
    have hff := Tryd.strings_FieldsFunc_runes 23 #[] (enters_of Tryd.func23 (by kernel_rfl) rfl) isPart s
    have HFF := Aside.mk hff
    have HSZ := Aside.mk hsz
    clear hff hsz
    go_enter Tryd.func8, Tryd.ntmps8
    go_upto_region 4 with (fail)
    -- the parser as it begins
    obtain ⟨B, hBq⟩ : ∃ B, B = w.heap.size := ⟨_, rfl⟩
    obtain ⟨W1, hW1⟩ : ∃ W1, W1 = (w.alloc (.cells #[.slice none 0 0] 23)).alloc (.cells #[.slice (some ⟨w.heap.size, 0, none⟩) 1 1, .slice none 0 0, .bool false, .int .i64 0] 52) := ⟨_, rfl⟩
    have hbel1 : Below w.heap.size w W1 := by rw [hW1]; exact ((Below.refl _ w).alloc (Nat.le_refl _) _).alloc (by simp) _
    have hs1 : W1.heap.size = w.heap.size + 2 := by rw [hW1]; simp
    have hpa : W1.heap[w.heap.size + 1]? = some (.cells #[.slice (some ⟨w.heap.size, 0, none⟩) 1 1, .slice none 0 0, .bool false, .int .i64 0] 52 (0, 0)) := by
      rw [hW1]
      exact heap_alloc2_new w _ _
    have hgo : W1.heap[w.heap.size]? = some (.cells #[.slice none 0 0] 23 (0, 0)) := by
      rw [hW1, heap_alloc_old _ _ (by simp)]
      exact heap_alloc_new w _
    have hps : ∀ Av : Nat → Prop, (∀ g, Av g → W1.heap.size ≤ g) → PSt W1 B (w.heap.size + 1) Av st0 := fun Av hAv => by
      refine ⟨_, _, [.slice none 0 0], [], hpa, by omega, ⟨rfl, .inr ⟨w.heap.size, 1, _, rfl, by omega, hgo, Nat.le_refl _, by unfold maxLen; omega, rfl, rfl⟩⟩, World.ownsRow_nil W1 B 62 3, ⟨.slice none 0 0, [], [], [], rfl, rfl, SliceAt.nil W1 B, rfl, rfl⟩, ?_, ?_⟩
      · simp [bl, Value.ownBlock]
      · intro g hg ha
        have := hAv g ha
        simp [bl, Value.ownBlock] at hg
        omega
    rw [← hW1]
    have HL1 := Aside.mk (hL.below hbel1)
    have HB1 := Aside.mk hbel1
    have HS1 := Aside.mk hs1
    have HPS1 := Aside.mk hps
    obtain ⟨pa, hpaq⟩ : ∃ pa, pa = w.heap.size + 1 := ⟨_, rfl⟩
    rw [← hpaq] at HPS1 ⊢
    rw [← hBq] at HB1 HS1 hpaq ⊢
    have HBW := Aside.mk hBq
    clear hpa hgo hps hW1 hs1 hbel1 hBq
    go_upto_region 5 with (first | (go_at_call 22; refine (HFF.out W1 (by have := HSZ.out; omega) (parted_pays W1)).mono ?_; rintro e w2 ⟨A, rfl, hA, hrow, hb2⟩; have HA := Aside.mk hA; have HR := Aside.mk hrow; have HB2 := Aside.mk hb2; clear hA hrow hb2))
    -- the words' row
    obtain ⟨ws, hws⟩ : ∃ ws, ws = wordsOf s := ⟨_, rfl⟩
    have HWS := Aside.mk hws
    rw [show Lib.goFieldsP isPart s = ws from hws.symm] at HR ⊢
    clear hws
    have hBA : B ≤ A := Nat.le_trans (by have := HS1.out; have := HBW.out; omega) HA.out
    have HPS2 : Aside (PSt w2 B pa (· = A) st0) := by
      obtain ⟨vo, vh, vs, F, q1, q2, q3, q4, q5, q6, q7⟩ := (HPS1.out (· = A) (fun g hg => hg ▸ HA.out)).out
      refine ⟨⟨vo, vh, vs, F, (HB2.out.block _ (blk_lt' q1)).trans q1, q2, own_frame q3 (fun g hg => HB2.out.block g (own_mem q3 g hg).2), own_frame q4 (fun g hg => HB2.out.block g (own_mem q4 g hg).2), q5.frame (fun g hg => HB2.out.block g (q5.mem g hg).2), q6, q7⟩⟩
    have HB3 := Aside.mk (show Below B w w2 from (HBW.out ▸ HB1.out : Below B w W1).trans (HB2.out.mono (by have := HS1.out; have := HBW.out; omega)))
    have HAl : Aside (A < w2.heap.size) := ⟨(own_mem HR.out A (by simp [bl_some])).2⟩
    have HRA : Aside (w2.ownsRow B 9 1 (.slice (some ⟨A, 0, none⟩) ws.length ws.length) ws.length (ws.map Value.string)) := by
      obtain ⟨h1, h2⟩ := HR.out
      refine ⟨⟨h1, ?_⟩⟩
      rcases h2 with h | ⟨g, cap, cur, e, hb, hg, rest⟩
      · exact .inl h
      · exact .inr ⟨g, cap, cur, e, Nat.le_trans (by have := HS1.out; have := HBW.out; omega) hb, hg, rest⟩
    have HLW := Aside.mk hL
    rw [← hpaq]
    clear hpaq HPS1 HFF hL HL1
    go_loopg [17] (ws.length + 1) (fun kq v17 w' => ∃ (j : Nat) (st : St), v17 = .int .i64 (j : Int) ∧ Aside (j + kq = ws.length + 1 ∧ j ≤ ws.length) ∧ Aside ((ws.take j).foldlM wd st0 = .ok st) ∧ Aside (Inv st) ∧ Aside (PSt w' B pa (· = A) st) ∧ Aside (Below B w w') ∧
      Aside (w'.ownsRow B 9 1 (.slice (some ⟨A, 0, none⟩) ws.length ws.length) ws.length (ws.map Value.string)))
    case atStart => exact ⟨0, st0, rfl, ⟨by omega⟩, ⟨rfl⟩, ⟨inv0⟩, HPS2, HB3, HRA⟩
    case round =>
      clear HPS2 HB3 HRA HB2 HR
      obtain ⟨j, st, rfl, HJ, HF, HI, HP, HB, HRW⟩ := hrel
      cases gk with
      | zero => have := HJ.out; omega
      | succ k1 =>
        have hmx := own_maxlen HRW.out
        by_cases hj : j < ws.length
        · have hjb := decide_eq_true (show (j : Int) < (ws.length : Int) by omega)
          have p1 := eq_true (show 0 ≤ (j : Int) by omega)
          have q1 := eq_true (show (j : Int) < (ws.length : Int) by omega)
          have hwj : wrap64 ((j : Int) + 1) = (j : Int) + 1 := by
            unfold wrap64
            omega
          have hwj2 : IntKind.i64.wrap ((j : Int) + 1) = (j : Int) + 1 := by
            rw [IntKind.wrap_i64]
            omega
          obtain ⟨x, hx⟩ : ∃ x, ws[j]? = some x := ⟨_, List.getElem?_eq_getElem hj⟩
          have HX := Aside.mk hx
          have hc := own_cell HRW.out (j := j) (x := .string x) (by rw [List.getElem?_map, hx]; rfl)
          have hxs : x.size ≤ 512 := by
            have h1 := word_size (s := s) (x := x) (HWS.out ▸ List.mem_of_getElem? hx)
            have := HSZ.out
            omega
          have hAw : A < wr.heap.size := (own_mem HRW.out A (by simp [bl_some])).2
          have hwc := word_calls wr (HLW.out.below (HBW.out ▸ HB.out)) B pa (· = A) (fun g hg => by subst hg; exact hAw) st (by have := HB.out.size; have := HBW.out; omega) HI.out HP.out x (by omega)
          clear hx
          have HWC := Aside.mk hwc
          clear hwc hxs hAw hj
          cases hwd : wd st x with
          | error c =>
            have hc0 : (c != 0) = true := by rcases wd_err hwd with rfl | rfl <;> rfl
            have HPD := Aside.mk (show parsed s = .error c by
              unfold parsed
              rw [if_neg HSZ.out, ← HWS.out, fold_fail HX.out HF.out hwd])
            have HWD := Aside.mk hwd
            clear hwd
            go_wp2_with (first | (go_at_call 24; refine HWC.out.mono ?_; rintro e w3 ⟨hb3, -, he, -⟩; obtain rfl := he c HWD.out; have HB3 := Aside.mk hb3; clear hb3 he))
            go_ret2
            exact ⟨HBW.out ▸ (HB.out.trans HB3.out), fun c' h => (by rw [HPD.out] at h; cases h; rfl), fun l h => (by rw [HPD.out] at h; cases h)⟩
          | ok st' =>
            have HWD := Aside.mk hwd
            clear hwd
            go_wp2_with (first | (go_at_call 24; refine HWC.out.mono ?_; rintro e w3 ⟨hb3, hav, -, he⟩; obtain ⟨rfl, hps'⟩ := he st' HWD.out; have HB3 := Aside.mk hb3; have HAV := Aside.mk hav; have HPS' := Aside.mk hps'; clear hb3 he hav hps'))
            go_roundg k1
            case measure => omega
            case rel => exact ⟨j + 1, st', by simp; done, ⟨by have := HJ.out; have := (List.getElem?_eq_some_iff.mp HX.out).1; omega⟩, ⟨(fold_snoc HX.out HF.out).trans HWD.out⟩, ⟨HI.out.wd HWD.out⟩, HPS', ⟨HB.out.trans HB3.out⟩, ⟨own_frame HRW.out (fun g hg => HAV.out g (by simpa [bl_some] using hg))⟩⟩
        · have hjb := decide_eq_false (show ¬ (j : Int) < (ws.length : Int) by omega)
          have hjb2 := decide_eq_false hj
          have hfold : ws.foldlM wd st0 = .ok st := by
            have := HF.out
            rwa [List.take_of_length_le (by omega)] at this
          obtain ⟨opens, heads, waits, many⟩ := st
          obtain ⟨vo, vh, vs, F, q1, q2, q3, q4, q5, q6, q7⟩ := HP.out.out
          obtain ⟨Ah, ch, rfl⟩ := own_slice q4
          obtain ⟨c0, c1, c2, c3, f0, f1, f2, f3⟩ := blk4 q1
          simp only [List.length_reverse] at c1
          have HQ5 := Aside.mk q5
          have HQ6 := Aside.mk q6
          have hpos : 0 < opens.length := HI.out.pos
          cases heads with
          | cons p hs =>
            have hl1 : decide ((0 : Int) < ((hs.length + 1 : Nat) : Int)) = true := decide_eq_true (by omega)
            have hl2 : decide ((0 : Int) < (hs.length : Int) + 1) = true := decide_eq_true (by omega)
            have hl3 : decide (0 < hs.length + 1) = true := decide_eq_true (by omega)
            have HPD := Aside.mk (show parsed s = .error 6 by
              unfold parsed
              rw [if_neg HSZ.out, ← HWS.out, hfold]
              simp)
            clear hfold q1 q2 q3 q4 q5 q6 q7 hj
            simp only [List.length_cons] at c1
            go_wp2
            go_ret2
            exact ⟨HBW.out ▸ HB.out, fun c' h => (by rw [HPD.out] at h; cases h; rfl), fun l h => (by rw [HPD.out] at h; cases h)⟩
          | nil =>
            obtain ⟨l, rfl⟩ : ∃ l, opens = [l] := by
              have h1 := HI.out.len
              simp only [List.length_nil] at h1
              match opens, hpos, h1 with
              | [l], _, _ => exact ⟨l, rfl⟩
              | _ :: _ :: _, _, h => simp at h; split at h <;> omega
            have HPD := Aside.mk (show parsed s = .ok l by
              unfold parsed
              rw [if_neg HSZ.out, ← HWS.out, hfold]
              simp)
            obtain ⟨v, vs', F1, F2, rfl, rfl, h1, rfl, rfl⟩ : StackAt wr B [l] vs F := q5
            obtain ⟨go, co, rfl⟩ : ∃ go co, vo = .slice (some ⟨go, 0, none⟩) 1 co := by
              rcases q3.2 with ⟨_, h⟩ | ⟨g, c, _, h, _⟩
              · simp at h
              · exact ⟨g, c, h⟩
            have b0 := own_cell (n := 1) q3 (j := 0) (x := v) rfl
            have HS := Aside.mk h1
            have HN := Aside.mk (show F1.Nodup by
              rw [List.append_nil, List.nodup_cons, List.nodup_append, List.nodup_append] at q6
              exact q6.2.2.1.2.1)
            clear hfold q1 q2 q3 q4 q6 q7 hj HQ5 HQ6 h1
            simp only [List.length_nil] at c1
            go_wp2
            go_ret2
            exact ⟨HBW.out ▸ HB.out, fun c' h => (by rw [HPD.out] at h; cases h), fun l h => (by rw [HPD.out] at h; cases h; exact ⟨v, rfl, F1, HBW.out ▸ HS.out, HN.out⟩)⟩
end Go.Proofs.YtbadcpaopdbgnaaDoor.Lang
