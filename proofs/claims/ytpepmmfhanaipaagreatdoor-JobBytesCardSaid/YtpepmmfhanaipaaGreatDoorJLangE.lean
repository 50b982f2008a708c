-- Put together by mergex.py out of this workplace's texts.
import Derived.Test.YtpepmmfhanaipaaGreatDoorJf
import Derived.BigRegion
import Derived.Deep.RegionLaw
import Derived.Deep.AppendLies
namespace Go.Proofs.YtpepmmfhanaipaaGreatDoor.Lang
open Go.RowKit Go.Shelf
set_option linter.unusedVariables false
set_option pp.deepTerms true
set_option linter.unusedSimpArgs false
theorem addr_add (g j : Nat) : (⟨g, 0, none⟩ : Addr).add j = ⟨g, j, none⟩ := by unfold Addr.add; split <;> simp_all
theorem own_cell {w : World} {B e size g n c : Nat} {xs : List Value} (h : w.ownsRow B e size (.slice (some ⟨g, 0, none⟩) n c) n xs) {j : Nat} {x : Value} (hj : xs[j]? = some x) : w.cell? ⟨g, j, none⟩ = some x := by
  have := World.ownsRow.cells h (g := g) rfl j x hj
  rwa [addr_add] at this
theorem Upd.own {w w' : World} {S : List Nat} (u : Upd w w' S) {B e size n : Nat} {v : Value} {xs : List Value} (h : w.ownsRow B e size v n xs) (hd : ∀ g ∈ bl v, g ∉ S) : w'.ownsRow B e size v n xs :=
  own_frame h fun g hg => u.block g (own_mem h g hg).2 (hd g hg)
theorem Upd.blk {w w' : World} {S : List Nat} (u : Upd w w' S) {g : Nat} {o : Obj} (h : w.heap[g]? = some o) (hd : g ∉ S) : w'.heap[g]? = some o := (u.block g (blk_lt' h) hd).trans h
theorem Upd.mono {w w' : World} {S T : List Nat} (u : Upd w w' S) (h : ∀ g ∈ S, g ∈ T) : Upd w w' T := ⟨u.os, u.tape, u.output, u.size, fun g hg hT => u.block g hg (fun hS => hT (h g hS))⟩
theorem bl_some (g n c : Nat) : bl (.slice (some ⟨g, 0, none⟩) n c) = [g] := rfl
theorem own_cap {w : World} {B e size g n c : Nat} {xs : List Value} (h : w.ownsRow B e size (.slice (some ⟨g, 0, none⟩) n c) n xs) : n ≤ c := by
  rcases h.2 with ⟨h', _⟩ | ⟨g', cap', cur, h', _, _, hnc, _⟩
  · simp at h'
  · simp only [Value.slice.injEq] at h'
    omega
theorem own_live {w : World} {B e size g n c : Nat} {xs : List Value} (h : w.ownsRow B e size (.slice (some ⟨g, 0, none⟩) n c) n xs) (j : Nat) : w.frozen? ⟨g, j, none⟩ = false := by
  rcases h.2 with ⟨h', _⟩ | ⟨g', cap', cur, h', _, hg, _⟩
  · simp at h'
  · simp only [Value.slice.injEq, Option.some.injEq, Addr.mk.injEq, and_true, true_and] at h'
    obtain ⟨rfl, rfl⟩ := h'
    exact blk_frozen hg j
theorem own_set {w : World} {B e g n c : Nat} {xs : List Value} (h : w.ownsRow B e 1 (.slice (some ⟨g, 0, none⟩) n c) n xs) (j : Nat) (hj : j < n) (x : Value) : (w.setCell ⟨g, j, none⟩ x).ownsRow B e 1 (.slice (some ⟨g, 0, none⟩) n c) n (xs.set j x) := by
  refine ⟨by rw [List.length_set]; exact h.1, ?_⟩
  rcases h.2 with ⟨h', _⟩ | ⟨g', cap', cur, h', hb, hg, hnc, hm, hs, ht⟩
  · simp at h'
  · simp only [Value.slice.injEq, Option.some.injEq, Addr.mk.injEq, and_true, true_and] at h'
    obtain ⟨rfl, rfl⟩ := h'
    refine .inr ⟨g, c, _, rfl, hb, set_at hg x, hnc, hm, by rw [Array.size_setIfInBounds]; exact hs, ?_⟩
    rw [Array.toList_setIfInBounds, ← ht, List.take_set]
theorem own_take {w : World} {B e size g n c : Nat} {xs : List Value} (h : w.ownsRow B e size (.slice (some ⟨g, 0, none⟩) n c) n xs) (n' : Nat) (hn : n' ≤ n) : w.ownsRow B e size (.slice (some ⟨g, 0, none⟩) n' c) n' (xs.take (n' * size)) := by
  have hle : n' * size ≤ n * size := Nat.mul_le_mul_right _ hn
  refine ⟨by rw [List.length_take, h.1]; omega, ?_⟩
  rcases h.2 with ⟨h', _⟩ | ⟨g', cap', cur, h', hb, hg, hnc, hm, hs, ht⟩
  · simp at h'
  · simp only [Value.slice.injEq, Option.some.injEq, Addr.mk.injEq, and_true, true_and] at h'
    obtain ⟨rfl, rfl⟩ := h'
    refine .inr ⟨g, c, cur, rfl, hb, hg, Nat.le_trans hn hnc, hm, hs, ?_⟩
    rw [← ht, List.take_take, Nat.min_eq_left hle]
theorem set_cut {k : Nat} (vs : List Value) (a b x : Value) (h : vs.length = k) : ((vs ++ [a, b]).set k x).take ((k + 1) * 1) = vs ++ [x] := by
  subst h
  rw [List.set_append_right _ _ (Nat.le_refl _), Nat.sub_self, List.set_cons_zero, List.take_append, List.take_of_length_le (by omega)]
  simp
theorem step_op {ops : Array Oper} {o : Oper} {a : Act} {w : World} {K : Act → World → Prop} {Q : Exit → Act → World → Prop} {E : Prop} (W : World) (k n : Int) (vt : Value)
    (hh : w.heap = W.heap.push (.cells #[.int .i64 k, .int .i64 n, vt] 199)) (hos : w.os = W.os) (htp : w.tape = W.tape) (hou : w.output = W.output) (hgd : o.guard = none) (s x : Operand)
    (ho : o.op = .call { callee := .builtin .append, args := #[s, x], argTypes := #[102, 102] }) (v1 : Value) (B m : Nat) (xs : List Value) (hs : a.eval s = v1) (hx : a.eval x = .slice (some ⟨W.heap.size, 0, none⟩) 1 1)
    (hown : W.ownsRow B 199 3 v1 m xs) (hm : m ≤ 1000) (hB : B ≤ W.heap.size) (h1 : vt.oneCell' = true)
    (h : ∀ g cap w', w'.ownsRow B 199 3 (.slice (some ⟨g, 0, none⟩) (m + 1) cap) (m + 1) (xs ++ [.int .i64 k, .int .i64 n, vt]) → Upd W w' (bl v1) → (v1.ownBlock = some g ∨ W.heap.size ≤ g) → K (a.put o.dst (.slice (some ⟨g, 0, none⟩) (m + 1) cap)) w') :
    if Region.wanted o (yielded ops a.tmps) = true then Oper.wp Tryz.prog o a w K Q else E := by
  obtain ⟨i0, hi, hz0, hz1, hz2⟩ := info_parts info199
  have hold : ∀ g, g < W.heap.size → w.heap[g]? = W.heap[g]? := fun g hg => by rw [hh, Array.getElem?_push, if_neg (by omega)]
  have hnew : w.heap[W.heap.size]? = some (.cells #[.int .i64 k, .int .i64 n, vt] 199 (0, 0)) := by rw [hh]; simp
  have hsz : w.heap.size = W.heap.size + 1 := by rw [hh]; simp
  refine step_append_lies _ hgd s x 102 ho B 199 i0 (.agg #[.int .i64 0, .int .i64 0, .slice none 0 0]) 3 40 Tryz.underlying102 hi hz0 hz1 hz2 rfl (by decide) v1 m xs hs (own_frame hown (fun g hg => hold g (own_mem hown g hg).2)) ⟨W.heap.size, 0, none⟩ 1 1 [.int .i64 k, .int .i64 n, vt] hx rfl (World.news_of_block (cs := #[.int .i64 k, .int .i64 n, vt]) (t := 199) (fr := (0, 0)) hnew) (by intro u hu; simp only [List.mem_cons, List.not_mem_nil, or_false] at hu; rcases hu with rfl | rfl | rfl; rfl; rfl; exact h1) (by omega) (by unfold maxLen; omega) (by omega) (by omega) (W.heap.size + 1) hsz ?_
  intro g cap w' hown' hgrow hloc _
  refine h g cap w' hown' ⟨hgrow.os.trans hos, hgrow.tape.trans htp, hgrow.output.trans hou, by have := hgrow.size; omega, fun j hj hS => (hgrow.block j (by omega) (fun e => hS (mem_bl.mpr e.symm))).trans (hold j hj)⟩ ?_
  rcases hloc with h | h
  · exact .inl h
  · exact .inr (by omega)
set_option maxRecDepth 100000 in
set_option maxHeartbeats 4000000 in
theorem bracket_close (w : World) (B pa k go gh co ch m : Nat) (many v1 vt : Value) (vs xs hs : List Value) (hk hn : Int) (s : ByteArray) (hne : s ≠ ⟨#[91]⟩)
    (hp : w.heap[pa]? = some (.cells #[.slice (some ⟨go, 0, none⟩) (k + 2) co, .slice (some ⟨gh, 0, none⟩) (k + 1) ch, .bool false, many] 244 (0, 0))) (hB : B ≤ w.heap.size)
    (ho : w.ownsRow B 102 1 (.slice (some ⟨go, 0, none⟩) (k + 2) co) (k + 2) (vs ++ [v1, vt])) (hh : w.ownsRow B 199 3 (.slice (some ⟨gh, 0, none⟩) (k + 1) ch) (k + 1) (hs ++ [.int .i64 hk, .int .i64 hn, .slice none 0 0]))
    (h1 : w.ownsRow B 199 3 v1 m xs) (hk6 : k ≤ 6) (hm : m ≤ 128) (d1 : pa ≠ go) (d2 : pa ≠ gh) (d3 : pa ∉ bl v1) (d4 : go ≠ gh) (d5 : go ∉ bl v1) (d6 : gh ∉ bl v1) (hvt : ∃ A n c, vt = .slice A n c) :
    Calls Tryz.prog 210 #[.pointer (some ⟨pa, 0, none⟩), .string s] w fun e w' => e = .returned (.int .i64 0) ∧ ∃ v1',
      w'.heap[pa]? = some (.cells #[.slice (some ⟨go, 0, none⟩) (k + 1) co, .slice (some ⟨gh, 0, none⟩) k ch, .bool false, many] 244 (0, 0)) ∧
      w'.ownsRow B 102 1 (.slice (some ⟨go, 0, none⟩) (k + 1) co) (k + 1) (vs ++ [v1']) ∧ w'.ownsRow B 199 3 v1' (m + 1) (xs ++ [.int .i64 hk, .int .i64 hn, vt]) ∧ Upd w w' (pa :: go :: bl v1) ∧
      (v1'.ownBlock = v1.ownBlock ∨ ∃ g, v1'.ownBlock = some g ∧ w.heap.size ≤ g) := by
  obtain ⟨At, nt, ct, rfl⟩ := hvt
  obtain ⟨A1, cc1, rfl⟩ := own_slice h1
  have HP := Aside.mk hp
  have hs1 := sc_false (l := [91]) hne
  have hvs : vs.length = k := by have := ho.1; simp at this; omega
  have hhs : hs.length = k * 3 := by have := hh.1; simp at this; omega
  have a0 := own_cell hh (j := k * 3) (x := .int .i64 hk) (by rw [List.getElem?_append_right (by omega)]; simp [hhs])
  have a1 := own_cell hh (j := k * 3 + 1) (x := .int .i64 hn) (by rw [List.getElem?_append_right (by omega)]; simp [hhs])
  have a2 := own_cell hh (j := k * 3 + 2) (x := .slice none 0 0) (by rw [List.getElem?_append_right (by omega)]; simp [hhs])
  have b0 := own_cell ho (j := k) (x := .slice A1 m cc1) (by rw [List.getElem?_append_right (by omega)]; simp [hvs])
  have b1 := own_cell ho (j := k + 1) (x := .slice At nt ct) (by rw [List.getElem?_append_right (by omega)]; simp [hvs])
  have hpl := blk_lt' hp
  obtain ⟨c0, c1, c2, c3, f0, f1, f2, f3⟩ := blk4 hp
  clear hp
  have hw1 : IntKind.i64.wrap ((k : Int) + 1 - 1) = (k : Int) := by
    simp [IntKind.wrap, IntKind.signed, IntKind.bits]
    omega
  have p1 := eq_true (show 0 ≤ (k : Int) by omega)
  have q1 := eq_true (show (k : Int) < (k : Int) + 1 by omega)
  have q2 := eq_true (show k < k + 1 by omega)
  have z1 : (((k : Int) + 1) == 0) = false := by simp; omega
  have HO := Aside.mk ho
  have HH := Aside.mk hh
  have H1 := Aside.mk h1
  clear ho hh h1
  go_enter Tryz.func210, Tryz.ntmps210
  go_upto_region 12 with (fail)
  clear a0 a1 a2 b0 b1 c0 c1 c2 c3 f0 f1 f2 f3
  -- behind region 11: x lies in a block of its own
  obtain ⟨x, hx⟩ : ∃ x, x = w.heap.size := ⟨_, rfl⟩
  have U1 := Aside.mk (Upd.alloc w (.cells #[.int .i64 hk, .int .i64 hn, .slice none 0 0] 199) [])
  have HX1 := Aside.mk (show (w.alloc (.cells #[.int .i64 hk, .int .i64 hn, .slice none 0 0] 199)).heap[x]? = some (.cells #[.int .i64 hk, .int .i64 hn, .slice none 0 0] 199 (0, 0)) by rw [hx]; exact heap_alloc_new w _)
  rw [← hx]
  have HXS := Aside.mk hx
  clear hx
  generalize w.alloc (.cells #[.int .i64 hk, .int .i64 hn, .slice none 0 0] 199) = W1 at U1 HX1 ⊢
  have hp := U1.out.blk HP.out (by simp)
  have HP1 := Aside.mk hp
  have HO1 := Aside.mk (U1.out.own HO.out (by simp))
  have HH1 := Aside.mk (U1.out.own HH.out (by simp))
  have H11 := Aside.mk (U1.out.own H1.out (by simp))
  have b1 := own_cell HO1.out (j := k + 1) (x := .slice At nt ct) (by rw [List.getElem?_append_right (by omega)]; simp [hvs])
  obtain ⟨x0, x1, x2, y0, y1, y2⟩ := blk3 HX1.out
  have hl := last_calls W1 pa go (k + 1) co (.slice (some ⟨gh, 0, none⟩) (k + 1) ch) (.bool false) many hp (by omega)
  have HL := Aside.mk hl
  clear hl hp
  go_upto_region 13 with (first | (go_at_call 213; refine HL.out.mono ?_; rintro e w2 ⟨rfl, q2, rfl⟩))
  have U2 := Aside.mk (U1.out.trans ((Upd.drewN W1 q2 [x]).trans (Upd.set (w := W1.drewN q2) (p := ⟨x, 2, none⟩) (S := [x]) (by simp) (.slice At nt ct)) (fun g hg _ => hg)) (fun g hg hlt => by have := HXS.out; simp at hg; omega))
  have HX2 := Aside.mk (show ((W1.drewN q2).setCell ⟨x, 2, none⟩ (.slice At nt ct)).heap[x]? = some (.cells #[.int .i64 hk, .int .i64 hn, .slice At nt ct] 199 (0, 0)) from set_at (w := W1.drewN q2) HX1.out _)
  clear b1 x0 x1 x2 y0 y1 y2
  generalize (W1.drewN q2).setCell ⟨x, 2, none⟩ (.slice At nt ct) = W2 at U2 HX2 ⊢
  have HP2 := Aside.mk (U2.out.blk HP.out (by simp))
  have HO2 := Aside.mk (U2.out.own HO.out (by simp))
  have HH2 := Aside.mk (U2.out.own HH.out (by simp))
  have H12 := Aside.mk (U2.out.own H1.out (by simp))
  clear HP1 HO1 HH1 H11 U1 HX1 HL
  obtain ⟨c0, c1, c2, c3, f0, f1, f2, f3⟩ := blk4 HP2.out
  have hw2 : IntKind.i64.wrap ((k : Int) + 1) = (k : Int) + 1 := by
    simp [IntKind.wrap, IntKind.signed, IntKind.bits]
    omega
  have hco := own_cap HO2.out
  have hch := own_cap HH2.out
  have p3 := eq_true (show 0 ≤ (k : Int) + 1 by omega)
  have q3 := eq_true (show (k : Int) + 1 ≤ (co : Int) by omega)
  have q4 := eq_true (show (k : Int) ≤ (ch : Int) by omega)
  go_region
  go_upto_region 14 with (fail)
  have U3 := Aside.mk ((U2.out.mono (T := [pa]) (by simp)).trans (((Upd.set (w := W2) (p := ⟨pa, 0, none⟩) (S := [pa]) (by simp) (.slice (some ⟨go, 0, none⟩) (k + 1) co)).trans (Upd.set (p := ⟨pa, 1, none⟩) (S := [pa]) (by simp) (.slice (some ⟨gh, 0, none⟩) k ch)) (fun g hg _ => hg)).trans (Upd.drewN _ 1 [pa]) (fun g hg _ => hg)) (fun g hg _ => hg))
  have HP3 := Aside.mk (show (((W2.setCell ⟨pa, 0, none⟩ (.slice (some ⟨go, 0, none⟩) (k + 1) co)).setCell ⟨pa, 1, none⟩ (.slice (some ⟨gh, 0, none⟩) k ch)).drew).heap[pa]? = some (.cells #[.slice (some ⟨go, 0, none⟩) (k + 1) co, .slice (some ⟨gh, 0, none⟩) k ch, .bool false, many] 244 (0, 0)) from set_at (set_at HP2.out _) _)
  have HX3 := Aside.mk (show (((W2.setCell ⟨pa, 0, none⟩ (.slice (some ⟨go, 0, none⟩) (k + 1) co)).setCell ⟨pa, 1, none⟩ (.slice (some ⟨gh, 0, none⟩) k ch)).drew).heap[x]? = some (.cells #[.int .i64 hk, .int .i64 hn, .slice At nt ct] 199 (0, 0)) from by
    have hxp : x ≠ pa := by have := HXS.out; omega
    show ((W2.setCell _ _).setCell _ _).heap[x]? = _
    rw [Below.heap_setCell _ _ _ _ hxp, Below.heap_setCell _ _ _ _ hxp]
    exact HX2.out)
  replace U3 := Aside.mk (show Upd w (((W2.setCell ⟨pa, 0, none⟩ (.slice (some ⟨go, 0, none⟩) (k + 1) co)).setCell ⟨pa, 1, none⟩ (.slice (some ⟨gh, 0, none⟩) k ch)).drew) [pa] from U3.out)
  clear c0 c1 c2 c3 f0 f1 f2 f3 p3 q3 q4 hco hch
  generalize (((W2.setCell ⟨pa, 0, none⟩ (.slice (some ⟨go, 0, none⟩) (k + 1) co)).setCell ⟨pa, 1, none⟩ (.slice (some ⟨gh, 0, none⟩) k ch)).drew) = W3 at U3 HP3 HX3 ⊢
  have HO3 := Aside.mk (U3.out.own HO.out (by simp [bl_some]; exact fun e => d1 e.symm))
  have H13 := Aside.mk (U3.out.own H1.out (fun g hg => by simp; rintro rfl; exact d3 hg))
  clear U2 HP2 HX2 HO2 HH2 H12
  have hgl : go < W3.heap.size := (own_mem HO3.out go (by simp [bl_some])).2
  have b0 := own_cell HO3.out (j := k) (x := .slice A1 m cc1) (by rw [List.getElem?_append_right (by omega)]; simp [hvs])
  obtain ⟨x0, x1, x2, y0, y1, y2⟩ := blk3 HX3.out
  have hl : ∀ W : World, W.heap[pa]? = W3.heap[pa]? → Calls Tryz.prog 213 #[.pointer (some ⟨pa, 0, none⟩)] W fun e w' => e = .returned (.pointer (some ⟨go, k, none⟩)) ∧ ∃ q, w' = W.drewN q := fun W hW =>
    last_calls W pa go k co _ _ _ (hW.trans HP3.out) (by omega)
  have HL := Aside.mk hl
  clear hl
  obtain ⟨i0, hi, hz0, hz1, hz2⟩ := info_parts info199
  have HI := Aside.mk hi
  clear hi
  have hB3 : B ≤ W3.heap.size := Nat.le_trans hB U3.out.size
  have hfz := own_live HO3.out k
  have b0b : ∀ n o, ((W3.drewN n).alloc o).cell? ⟨go, k, none⟩ = some (.slice A1 m cc1) := fun n o => (World.cell?_of_block (a := ⟨go, k, none⟩) (heap_alloc_old (W3.drewN n) o hgl)).trans b0
  have b0a : ∀ o, (W3.alloc o).cell? ⟨go, k, none⟩ = some (.slice A1 m cc1) := fun o => (World.cell?_of_block (a := ⟨go, k, none⟩) (heap_alloc_old W3 o hgl)).trans b0
  go_region_law (first
    | (go_simp; go_at_call 213; refine (HL.out _ (by first | rfl | exact heap_alloc_old W3 _ (blk_lt' HP3.out))).mono ?_; rintro e w' ⟨rfl, q, rfl⟩)
    | (refine step_op W3 hk hn (.slice At nt ct) rfl rfl rfl rfl rfl (.tmp 90) (.tmp 92) rfl (.slice A1 m cc1) B m xs rfl rfl H13.out (by omega) hB3 rfl ?_
       intro g cap w' hown hu hloc
       have hgo := hu.block go hgl d5
       have b0' := (World.cell?_of_block (a := ⟨go, k, none⟩) hgo).trans b0
       have hfz' := (World.frozen?_of_block (a := ⟨go, k, none⟩) hgo).trans hfz
       have HN := Aside.mk hown
       have U4 := Aside.mk hu
       have HLo := Aside.mk hloc
       clear hown hu hloc hgo))
  all_goals
    go_wp2
    go_ret
  all_goals
    have hU : Upd w (w'.setCell ⟨go, k, none⟩ (.slice (some ⟨g, 0, none⟩) (m + 1) cap)) (pa :: go :: bl (.slice A1 m cc1)) :=
      ((U3.out.mono (by simp)).trans (U4.out.mono (by intro g hg; simp [hg])) (fun g hg _ => hg)).trans (Upd.set (by simp) _) (fun g hg _ => hg)
    have hgg : g ≠ go := by
      rintro rfl
      rcases HLo.out with h | h
      · exact d5 (mem_bl.mpr h)
      · omega
    refine ⟨rfl, _, ?_, ?_, own_frame HN.out (fun j hj => ?_), hU, ?_⟩
    · rw [Below.heap_setCell _ _ _ _ d1]
      exact U4.out.blk HP3.out d3
    · have h5 := own_take (own_set (U4.out.own HO3.out (by simpa [bl_some] using d5)) k (by omega) (.slice (some ⟨g, 0, none⟩) (m + 1) cap)) (k + 1) (by omega)
      rw [set_cut vs _ _ _ hvs] at h5
      exact h5
    · rw [bl_some] at hj
      simp only [List.mem_cons, List.not_mem_nil, or_false] at hj
      subst hj
      exact Below.heap_setCell _ _ _ _ hgg
    · rcases HLo.out with h | h
      · exact .inl h.symm
      · exact .inr ⟨g, rfl, Nat.le_trans U3.out.size h⟩
end Go.Proofs.YtpepmmfhanaipaaGreatDoor.Lang
