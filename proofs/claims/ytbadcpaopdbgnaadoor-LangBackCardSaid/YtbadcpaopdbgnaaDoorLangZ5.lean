/-
  Walk: ops copied.
-/
import Derived.Test.YtbadcpaopdbgnaaDoorLangZ2
import Derived.Test.YtbadcpaopdbgnaaDoorLangV
namespace Go.Proofs.YtbadcpaopdbgnaaDoor.Lang
open Go.RowKit Go.Shelf
set_option linter.unusedVariables false
set_option linter.unusedSimpArgs false

/-- 'append(row, op)' in a plain region. -/
theorem app_op2 {ops : Array Oper} {rest : List Oper} {o : Oper} {a : Act} {Q : Exit → Act → World → Prop} {W : World} (k n : Int) (vt : Value) (hgd : o.guard = none) (s x : Operand)
    (ho : o.op = .call { callee := .builtin .append, args := #[s, x], argTypes := #[23, 23] }) (v1 : Value) (B m : Nat) (xs : List Value) (hs : a.eval s = v1) (hx : a.eval x = .slice (some ⟨W.heap.size, 0, none⟩) 1 1)
    (hown : W.ownsRow B 62 3 v1 m xs) (hm : m ≤ 3518437208780) (hB : B ≤ W.heap.size) (h1 : vt.oneCell' = true)
    (h : ∀ g cap w', w'.ownsRow B 62 3 (.slice (some ⟨g, 0, none⟩) (m + 1) cap) (m + 1) (xs ++ [.int .i64 k, .int .i64 n, vt]) → Upd W w' (bl v1) → (v1.ownBlock = some g ∨ W.heap.size ≤ g) → wpList Tryd.prog ops Q rest (a.put o.dst (.slice (some ⟨g, 0, none⟩) (m + 1) cap)) w') :
    wpList Tryd.prog ops Q (o :: rest) a (W.alloc (.cells #[.int .i64 k, .int .i64 n, vt] 62)) := by
  obtain ⟨i0, hi, hz0, hz1, hz2⟩ := info_parts info62
  refine wpList_append_lies (w := W.alloc (.cells #[.int .i64 k, .int .i64 n, vt] 62)) hgd s x 23 ho B 62 i0 (.agg #[.int .i64 0, .int .i64 0, .slice none 0 0]) 3 40 Tryd.underlying23 hi hz0 hz1 hz2 rfl (by decide) v1 m xs hs (hown.alloc _) ⟨W.heap.size, 0, none⟩ 1 1 [.int .i64 k, .int .i64 n, vt] hx rfl (World.news_of_block (cs := #[.int .i64 k, .int .i64 n, vt]) (t := 62) (fr := (0, 0)) (heap_alloc_new W _)) (by intro u hu; simp only [List.mem_cons, List.not_mem_nil, or_false] at hu; rcases hu with rfl | rfl | rfl; rfl; rfl; exact h1) (by omega) (by unfold maxLen; omega) (by omega) (by simp; omega) (W.heap.size + 1) (by simp) ?_
  intro g cap w' hown' hgrow hloc _
  refine h g cap w' hown' ⟨hgrow.os, hgrow.tape, hgrow.output, by have := hgrow.size; simp at this; omega, fun j hj hS => (hgrow.block j (by simp; omega) (fun e => hS (mem_bl.mpr e.symm))).trans (heap_alloc_old W _ hj)⟩ ?_
  rcases hloc with h | h
  · exact .inl h
  · exact .inr (by omega)

namespace Ops
def app : Ops → Ops → Ops
  | nil, r => r
  | cons k n b x, r => cons k n b (x.app r)
theorem app_snoc : ∀ (o : Ops) (k n : Int) (b r : Ops), (o.snoc k n b).app r = o.app (cons k n b r)
  | nil, _, _, _, _ => rfl
  | cons k' n' b' x, k, n, b, r => by simp only [snoc, app, app_snoc x]
theorem app_nil : ∀ o : Ops, o.app nil = o
  | nil => rfl
  | cons k n b x => by simp only [app, app_nil x]
theorem len_drop : ∀ (l : Ops) (i : Nat), (l.drop i).len = l.len - i
  | l, 0 => by cases l <;> rfl
  | nil, i + 1 => by simp [drop, len]
  | cons k n b r, i + 1 => by simp only [drop, len]; rw [len_drop r i]; omega
end Ops
set_option maxRecDepth 100000 in
set_option maxHeartbeats 16000000 in
theorem copy_calls : ∀ (N : Nat) (l : Ops) (v : Value) (w : World), l.size < N → Rd w v l → short l → l.len ≤ 3518437208780 → Calls Tryd.prog 14 #[v] w fun e w' => (∃ v' F, e = .returned v' ∧ SliceAt w' w.heap.size l v' F ∧ F.Nodup) ∧ Below w.heap.size w w' := by
  intro N
  induction N with
  | zero => intro l v w hN; omega
  | succ N ih =>
    intro l v w hN h1 hsh hlen
    have H1 := Aside.mk h1
    have IH := Aside.mk ih
    have HS := Aside.mk hN
    have HSH := Aside.mk hsh
    obtain ⟨A1, c1, rfl, hb1, hc1⟩ := h1
    clear hc1 ih hN hsh hb1
    obtain ⟨n, hn⟩ : ∃ n, n = l.len := ⟨_, rfl⟩
    rw [← hn] at H1 hlen ⊢
    have HNL := Aside.mk hn
    clear hn
    go_enter Tryd.func14, Tryd.ntmps14
    go_wp2
    go_loopg [3, 4] (n + 1) (fun kq v3 v4 w' => ∃ (i : Nat) (out : Ops) (F : List Nat), v4 = .int .i64 (i : Int) ∧ Aside (i + kq = n + 1 ∧ i ≤ n ∧ out.len = i) ∧ Aside (out.app (l.drop i) = l) ∧ Aside (SliceAt w' w.heap.size out v3 F) ∧ Aside F.Nodup ∧ Aside (Below w.heap.size w w'))
    case atStart => exact ⟨0, .nil, [], rfl, ⟨by omega, by omega, rfl⟩, ⟨by rw [drop_zero]; rfl⟩, ⟨SliceAt.nil _ _⟩, ⟨List.nodup_nil⟩, ⟨Below.refl _ _⟩⟩
    case round =>
      obtain ⟨i, out, F, rfl, HI, HA, HSL, HN, HB⟩ := hrel
      cases gk with
      | zero => have := HI.out; omega
      | succ k1 =>
        obtain ⟨xs, F', hFe, ho, hxs⟩ := HSL.out
        obtain ⟨Ao, co, rfl⟩ := own_slice ho
        by_cases hi : i < n
        · have hib := decide_eq_true (show (i : Int) < (n : Int) by omega)
          have hib2 := decide_eq_true hi
          have p1 := eq_true (show 0 ≤ (i : Int) by omega)
          have q1 := eq_true (show (i : Int) < (n : Int) by omega)
          obtain ⟨⟨k, x, b⟩, hxa⟩ := Ops.get_lt (l := l) (i := i) (by have := HNL.out; omega)
          obtain ⟨ad1, _, ee, a0, a1, va, a2, hra⟩ := H1.out.get hxa
          cases ee
          obtain ⟨Ab, cb, rfl, hbb, -⟩ := id hra
          have HDR := Aside.mk (Ops.drop_get hxa)
          have HGS := Aside.mk (Ops.get_size hxa)
          have HSG := Aside.mk (short_get HSH.out hxa)
          have a0' := keep_below HB.out _ _ a0
          have a1' := keep_below HB.out _ _ a1
          have a2' := keep_below HB.out _ _ a2
          have HRB := Aside.mk hra
          clear hra hxa a0 a1 a2
          simp only at a0' a1' a2' HDR HGS HSG HRB hbb
          have HOW := Aside.mk ho
          have HOX := Aside.mk hxs
          have HFE := Aside.mk hFe
          clear ho hxs hFe
          go_upto_region 6 with (fail)
          obtain ⟨g8, hg8⟩ : ∃ g8, g8 = wr.heap.size := ⟨_, rfl⟩
          have H8' := heap_alloc_new wr (.cells #[.int .i64 k, .int .i64 x, .slice Ab b.len cb] 62)
          have HB2 := Aside.mk (HB.out.alloc HB.out.size (.cells #[.int .i64 k, .int .i64 x, .slice Ab b.len cb] 62))
          have HSL2 := Aside.mk (HSL.out.frame (w' := wr.alloc (.cells #[.int .i64 k, .int .i64 x, .slice Ab b.len cb] 62)) (fun g hg => heap_alloc_old wr _ (HSL.out.mem g hg).2))
          have b2' := keep_below ((Below.refl _ wr).alloc (Nat.le_refl _) (.cells #[.int .i64 k, .int .i64 x, .slice Ab b.len cb] 62)) _ _ a2'
          have HG8 := Aside.mk (show wr.heap.size ∉ F from fun h => by have := (HSL.out.mem _ h).2; omega)
          rw [← hg8] at H8' HG8 ⊢
          have HGL := Aside.mk (show w.heap.size ≤ g8 by rw [hg8]; exact HB.out.size)
          clear hg8 a0' a1' a2'
          generalize wr.alloc (.cells #[.int .i64 k, .int .i64 x, .slice Ab b.len cb] 62) = W2 at H8' HB2 HSL2 b2' ⊢
          have H8 := Aside.mk H8'
          clear H8'
          have HC := Aside.mk (IH.out b (.slice Ab b.len cb) W2 (by have := HGS.out; have := HS.out; omega) (HRB.out.keep (keep_below HB2.out)) HSG.out.2 HSG.out.1)
          go_upto_region 7 with (first | (go_at_call 14; refine HC.out.mono ?_; rintro e w5 ⟨⟨v5, F5, rfl, hs5, hn5⟩, hb⟩; obtain ⟨A5, c5, rfl⟩ := slice_form hs5; have h85 := (hb.block g8 (blk_lt' H8.out)).trans H8.out; obtain ⟨x0, x1, x2, y0, y1, y2⟩ := blk3 h85; have H85 := Aside.mk h85; have HB5 := Aside.mk hb; have HSS5 := Aside.mk hs5; have HN5 := Aside.mk hn5; clear hb hs5 hn5 h85))
          have H86' := set_at (j := 2) H85.out (.slice A5 b.len c5)
          have HS6' := (HSL2.out.frame (fun g hg => HB5.out.block g (HSL2.out.mem g hg).2)).frame (w' := w5.setCell ⟨g8, 2, none⟩ (.slice A5 b.len c5)) (fun g hg => Below.heap_setCell _ _ _ _ (fun e => HG8.out (by simp at e; rw [← e]; exact hg)))
          have HS56' := HSS5.out.frame (w' := w5.setCell ⟨g8, 2, none⟩ (.slice A5 b.len c5)) (fun g hg => Below.heap_setCell _ _ _ _ (fun e => by have h1 := (HSS5.out.mem g hg).1; have h2 := blk_lt' H8.out; simp at e; omega))
          have HB6' := (HB2.out.trans (HB5.out.mono HB2.out.size)).setCell (p := ⟨g8, 2, none⟩) HGL.out (.slice A5 b.len c5)
          have hBW4 := HB2.out.size
          clear x0 x1 x2 y0 y1 y2
          generalize w5.setCell ⟨g8, 2, none⟩ (.slice A5 b.len c5) = W6 at H86' HS6' HS56' HB6' ⊢
          have HS6 := Aside.mk HS6'
          have HS56 := Aside.mk HS56'
          have HB6 := Aside.mk HB6'
          obtain ⟨x0, x1, x2, y0, y1, y2⟩ := blk3 (show W6.heap[g8]? = some (.cells #[.int .i64 k, .int .i64 x, .slice A5 b.len c5] 62 (0, 0)) from H86')
          clear H86' HS6' HS56' HB6' HOW HOX HFE
          obtain ⟨xs6, F6, hF6, ho6, hx6⟩ := HS6.out
          have HOW := Aside.mk ho6
          have HOX := Aside.mk hx6
          have hnd : (bl (Value.slice Ao out.len co) ++ (F6 ++ F5)).Nodup := by
            rw [← List.append_assoc, ← hF6, List.nodup_append]
            exact ⟨HN.out, HN5.out, fun a ha c hc e => by subst e; have h1 := (HSL2.out.mem a ha).2; have h2 := (HS56.out.mem a hc).1; omega⟩
          have HND := Aside.mk hnd
          have hbw := HB6.out.size
          have hml : out.len ≤ 3518437208780 := by have := HI.out.2.2; omega
          clear hF6 ho6 hx6 hnd
          go_wp2_with (first | (at_builtin; go_must (refine app_op2 k x (.slice A5 b.len c5) rfl _ _ rfl (.slice Ao out.len co) w.heap.size out.len xs6 rfl rfl HOW.out hml hbw rfl ?_; intro g cap w7 hown hu hloc; have HSN := Aside.mk (push (b := b) HOX.out (HS56.out.lower hBW4) HND.out hu hown hloc); have HB7 := Aside.mk (HB6.out.trans (hu.below hbw (fun y hy => (own_mem HOW.out y hy).1))); clear hown hu hloc)))
          obtain ⟨F7, hs7, hn7⟩ := HSN.out
          have HS7 := Aside.mk hs7
          have HN7 := Aside.mk hn7
          clear hs7 hn7
          go_roundg k1
          case measure => omega
          case rel => exact ⟨i + 1, out.snoc k x b, F7, by simp; done, ⟨by have := HI.out; omega, by omega, by rw [Ops.len_snoc]; have := HI.out; omega⟩, ⟨by rw [Ops.app_snoc]; have := HA.out; rwa [HDR.out] at this⟩, HS7, HN7, HB7⟩
        · have hib := decide_eq_false (show ¬ (i : Int) < (n : Int) by omega)
          have hib2 := decide_eq_false hi
          have HRE := Aside.mk (show out = l by
            have := HA.out
            rwa [Ops.drop_all (by have := HNL.out; omega), Ops.app_nil] at this)
          clear ho hxs hFe
          go_wp2
          go_ret
          exact ⟨⟨_, F, rfl, by rw [← HRE.out]; exact HSL.out, HN.out⟩, HB.out⟩
end Go.Proofs.YtbadcpaopdbgnaaDoor.Lang
