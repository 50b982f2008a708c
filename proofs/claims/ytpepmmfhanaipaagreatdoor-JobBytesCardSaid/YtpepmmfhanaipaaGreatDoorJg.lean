-- Put together by mergex.py out of this workplace's texts.
import Derived.Test.YtpepmmfhanaipaaGreatDoorJLangE
section
namespace Go.Proofs.YtpepmmfhanaipaaGreatDoor.Lang
open Go.RowKit Go.Shelf
set_option linter.unusedVariables false
set_option linter.unusedSimpArgs false
set_option maxRecDepth 100000 in
set_option maxHeartbeats 4000000 in
theorem word_bracket (w : World) (pa : Nat) (s : ByteArray) (v : Value) (R : World → Prop) (hs : s = ⟨#[91]⟩ ∨ s = ⟨#[93]⟩) (h : Calls Tryz.prog 210 #[.pointer (some ⟨pa, 0, none⟩), .string s] w fun e w' => e = .returned v ∧ R w') :
    Calls Tryz.prog 174 #[.pointer (some ⟨pa, 0, none⟩), .string s] w fun e w' => e = .returned v ∧ R w' := by
  have H := Aside.mk h
  clear h
  rcases hs with rfl | rfl
  · go_enter Tryz.func174, Tryz.ntmps174
    go_wp2_with (first | (go_at_call 210; refine H.out.mono ?_; rintro e w' ⟨rfl, hr⟩; have HR := Aside.mk hr; clear hr))
    go_ret
    exact ⟨rfl, HR.out⟩
  · go_enter Tryz.func174, Tryz.ntmps174
    go_wp2_with (first | (go_at_call 210; refine H.out.mono ?_; rintro e w' ⟨rfl, hr⟩; have HR := Aside.mk hr; clear hr))
    go_ret
    exact ⟨rfl, HR.out⟩
set_option maxRecDepth 100000 in
set_option maxHeartbeats 4000000 in
theorem word_bad (w : World) (hL : Laid w) (pa : Nat) (vo vh many : Value) (waits : Bool) (s : ByteArray) (hsz : s.size ≤ 281474976710656) (h91 : s ≠ ⟨#[91]⟩) (h93 : s ≠ ⟨#[93]⟩)
    (hp : w.heap[pa]? = some (.cells #[vo, vh, .bool waits, many] 244 (0, 0))) (hb : waits = true ∨ opOf s = none) :
    Calls Tryz.prog 174 #[.pointer (some ⟨pa, 0, none⟩), .string s] w fun e w' => e = .returned (.int .i64 7) ∧ Upd w w' [] := by
  have h1 := sc_false (l := [91]) h91
  have h2 := sc_false (l := [93]) h93
  have hop := op_calls s w hL hsz
  obtain ⟨ok, hok⟩ : ∃ ok, ok = (opOf s).isSome := ⟨_, rfl⟩
  rw [← hok] at hop
  have HOP := Aside.mk hop
  have HP := Aside.mk hp
  have hbad : waits = true ∨ ok = false := hb.imp id (fun h => by rw [hok, h]; rfl)
  clear hop hp h91 h93 hb hok
  go_enter Tryz.func174, Tryz.ntmps174
  rcases hbad with rfl | rfl
  · go_wp2_with (first | (go_at_call 211; refine HOP.out.mono ?_; rintro e w' ⟨p, rfl, -, hb⟩; have HB := Aside.mk hb; have hp' := (hb.block pa (blk_lt' HP.out)).trans HP.out; have hp2 : ∀ o, (w'.alloc o).heap[pa]? = some (.cells #[vo, vh, .bool true, many] 244 (0, 0)) := fun o => (heap_alloc_old w' o (blk_lt' hp')).trans hp'; have c2 : ∀ o, (w'.alloc o).cell? ⟨pa, 2, none⟩ = some (.bool true) := fun o => (blk4 (hp2 o)).2.2.1; clear hp' hp2 hb; unfold opR))
    go_ret
    exact ⟨rfl, (Upd.of_below HB.out []).trans (Upd.alloc _ _ []) (fun g hg _ => hg)⟩
  · cases waits
    · go_wp2_with (first | (go_at_call 211; refine HOP.out.mono ?_; rintro e w' ⟨p, rfl, -, hb⟩; have HB := Aside.mk hb; have hp' := (hb.block pa (blk_lt' HP.out)).trans HP.out; have hp2 : ∀ o, (w'.alloc o).heap[pa]? = some (.cells #[vo, vh, .bool false, many] 244 (0, 0)) := fun o => (heap_alloc_old w' o (blk_lt' hp')).trans hp'; have c2 : ∀ o, (w'.alloc o).cell? ⟨pa, 2, none⟩ = some (.bool false) := fun o => (blk4 (hp2 o)).2.2.1; clear hp' hp2 hb; unfold opR))
      go_ret
      exact ⟨rfl, (Upd.of_below HB.out []).trans (Upd.alloc _ _ []) (fun g hg _ => hg)⟩
    · go_wp2_with (first | (go_at_call 211; refine HOP.out.mono ?_; rintro e w' ⟨p, rfl, -, hb⟩; have HB := Aside.mk hb; have hp' := (hb.block pa (blk_lt' HP.out)).trans HP.out; have hp2 : ∀ o, (w'.alloc o).heap[pa]? = some (.cells #[vo, vh, .bool true, many] 244 (0, 0)) := fun o => (heap_alloc_old w' o (blk_lt' hp')).trans hp'; have c2 : ∀ o, (w'.alloc o).cell? ⟨pa, 2, none⟩ = some (.bool true) := fun o => (blk4 (hp2 o)).2.2.1; clear hp' hp2 hb; unfold opR))
      go_ret
      exact ⟨rfl, (Upd.of_below HB.out []).trans (Upd.alloc _ _ []) (fun g hg _ => hg)⟩
end Go.Proofs.YtpepmmfhanaipaaGreatDoor.Lang
end
section
namespace Go.Proofs.YtpepmmfhanaipaaGreatDoor.Lang
open Go.RowKit Go.Shelf
set_option linter.unusedVariables false
set_option linter.unusedSimpArgs false
theorem op_some (s : ByteArray) (w : World) (hL : Laid w) (hs : s.size ≤ 281474976710656) {k n : Int} (h : opOf s = some (k, n)) : Calls Tryz.prog 211 #[.string s] w fun e w' => e = .returned (.tuple #[.agg #[.int .i64 k, .int .i64 n, .slice none 0 0], .bool true]) ∧ Below w.heap.size w w' :=
  (op_calls s w hL hs).mono fun e w' ⟨p, he, hp, hb⟩ => by
    obtain rfl := hp _ h
    rw [h] at he
    exact ⟨he, hb⟩
set_option maxRecDepth 100000 in
set_option maxHeartbeats 4000000 in
theorem word_limit (w : World) (hL : Laid w) (pa : Nat) (vo vh : Value) (s : ByteArray) (hsz : s.size ≤ 281474976710656) (h91 : s ≠ ⟨#[91]⟩) (h93 : s ≠ ⟨#[93]⟩)
    (hp : w.heap[pa]? = some (.cells #[vo, vh, .bool false, .int .i64 128] 244 (0, 0))) {k n : Int} (ho : opOf s = some (k, n)) :
    Calls Tryz.prog 174 #[.pointer (some ⟨pa, 0, none⟩), .string s] w fun e w' => e = .returned (.int .i64 2) ∧ Upd w w' [] := by
  have h1 := sc_false (l := [91]) h91
  have h2 := sc_false (l := [93]) h93
  have HOP := Aside.mk (op_some s w hL hsz ho)
  have HP := Aside.mk hp
  clear hp h91 h93 ho
  go_enter Tryz.func174, Tryz.ntmps174
  go_wp2_with (first | (go_at_call 211; refine HOP.out.mono ?_; rintro e w' ⟨rfl, hb⟩; have HB := Aside.mk hb; have hp' := (hb.block pa (blk_lt' HP.out)).trans HP.out; have hp2 : ∀ o, (w'.alloc o).heap[pa]? = some (.cells #[vo, vh, .bool false, .int .i64 128] 244 (0, 0)) := fun o => (heap_alloc_old w' o (blk_lt' hp')).trans hp'; have c2 : ∀ o, (w'.alloc o).cell? ⟨pa, 2, none⟩ = some (.bool false) := fun o => (blk4 (hp2 o)).2.2.1; have c3 : ∀ o, (w'.alloc o).cell? ⟨pa, 3, none⟩ = some (.int .i64 128) := fun o => (blk4 (hp2 o)).2.2.2.1; clear hp' hp2 hb))
  go_ret
  exact ⟨rfl, (Upd.of_below HB.out []).trans (Upd.alloc _ _ []) (fun g hg _ => hg)⟩
set_option maxRecDepth 100000 in
set_option maxHeartbeats 4000000 in
theorem word_head (w : World) (hL : Laid w) (B pa m : Nat) (vo vh : Value) (many : Nat) (hs : List Value) (s : ByteArray) (hsz : s.size ≤ 281474976710656) (h91 : s ≠ ⟨#[91]⟩) (h93 : s ≠ ⟨#[93]⟩) (hB : B ≤ w.heap.size)
    (hp : w.heap[pa]? = some (.cells #[vo, vh, .bool false, .int .i64 (many : Int)] 244 (0, 0))) {k n : Int} (ho : opOf s = some (k, n)) (hm : many < 128) (hk : k = 28 ∨ k = 29)
    (hh : w.ownsRow B 199 3 vh m hs) (hm1 : m ≤ 128) (hd : pa ∉ bl vh) :
    Calls Tryz.prog 174 #[.pointer (some ⟨pa, 0, none⟩), .string s] w fun e w' => e = .returned (.int .i64 0) ∧ ∃ vh', w'.heap[pa]? = some (.cells #[vo, vh', .bool true, .int .i64 ((many + 1 : Nat) : Int)] 244 (0, 0)) ∧
      w'.ownsRow B 199 3 vh' (m + 1) (hs ++ [.int .i64 k, .int .i64 n, .slice none 0 0]) ∧ Upd w w' (pa :: bl vh) ∧ (vh'.ownBlock = vh.ownBlock ∨ ∃ g, vh'.ownBlock = some g ∧ w.heap.size ≤ g) := by
  have h1 := sc_false (l := [91]) h91
  have h2 := sc_false (l := [93]) h93
  have HOP := Aside.mk (op_some s w hL hsz ho)
  have HP := Aside.mk hp
  obtain ⟨A1, c1', rfl⟩ := own_slice hh
  have HH := Aside.mk hh
  have hne : decide ((many : Int) = 128) = false := decide_eq_false (by omega)
  have hne2 : ((many : Int) == 128) = false := by simp; omega
  have hw1 : IntKind.i64.wrap ((many : Int) + 1) = (many : Int) + 1 := by
    simp [IntKind.wrap, IntKind.signed, IntKind.bits]
    omega
  clear hp h91 h93 ho hh
  go_enter Tryz.func174, Tryz.ntmps174
  go_upto_region 9 with (first | (go_at_call 211; refine HOP.out.mono ?_; rintro e w' ⟨rfl, hb⟩; have HB := Aside.mk hb; have hp' := (hb.block pa (blk_lt' HP.out)).trans HP.out; have hp2 : ∀ o, (w'.alloc o).heap[pa]? = some (.cells #[vo, .slice A1 m c1', .bool false, .int .i64 (many : Int)] 244 (0, 0)) := fun o => (heap_alloc_old w' o (blk_lt' hp')).trans hp'; have c2 : ∀ o, (w'.alloc o).cell? ⟨pa, 2, none⟩ = some (.bool false) := fun o => (blk4 (hp2 o)).2.2.1; have c3 : ∀ o, (w'.alloc o).cell? ⟨pa, 3, none⟩ = some (.int .i64 (many : Int)) := fun o => (blk4 (hp2 o)).2.2.2.1; have f3 : ∀ o, (w'.alloc o).frozen? ⟨pa, 3, none⟩ = false := fun o => (blk4 (hp2 o)).2.2.2.2.2.2.2; have HP' := Aside.mk hp'; clear hp' hp2 hb))
  obtain ⟨x, hx⟩ : ∃ x, x = w'.heap.size := ⟨_, rfl⟩
  have hpa' := blk_lt' HP'.out
  have U1 := Aside.mk ((((Upd.of_below HB.out [pa]).trans (Upd.alloc w' (.cells #[.int .i64 k, .int .i64 n, .slice none 0 0] 199) [pa]) (fun g hg _ => hg)).trans (Upd.set (p := ⟨pa, 3, none⟩) (by simp) (.int .i64 ((many : Int) + 1))) (fun g hg _ => hg)))
  have HP1 := Aside.mk (set_at (j := 3) ((heap_alloc_old w' (.cells #[.int .i64 k, .int .i64 n, .slice none 0 0] 199) hpa').trans HP'.out) (.int .i64 ((many : Int) + 1)))
  have HX1 := Aside.mk (show ((w'.alloc (.cells #[.int .i64 k, .int .i64 n, .slice none 0 0] 199)).setCell ⟨pa, 3, none⟩ (.int .i64 ((many : Int) + 1))).heap[x]? = some (.cells #[.int .i64 k, .int .i64 n, .slice none 0 0] 199 (0, 0)) by rw [Below.heap_setCell _ _ _ _ (by rw [hx]; exact Nat.ne_of_gt hpa'), hx]; exact heap_alloc_new w' _)
  rw [← hx]
  have HXW := Aside.mk (hx ▸ HB.out.size : w.heap.size ≤ x)
  clear hx c2 c3 f3 hpa'
  generalize (w'.alloc (.cells #[.int .i64 k, .int .i64 n, .slice none 0 0] 199)).setCell ⟨pa, 3, none⟩ (.int .i64 ((many : Int) + 1)) = W1 at U1 HP1 HX1 ⊢
  replace HP1 := Aside.mk (show W1.heap[pa]? = some (.cells #[vo, .slice A1 m c1', .bool false, .int .i64 ((many : Int) + 1)] 244 (0, 0)) from HP1.out)
  have HH1 := Aside.mk (U1.out.own HH.out (fun g hg => by simp; rintro rfl; exact hd hg))
  obtain ⟨c0, c1, c2, c3, f0, f1, f2, f3⟩ := blk4 HP1.out
  obtain ⟨x0, x1, x2, y0, y1, y2⟩ := blk3 HX1.out
  have hpl := blk_lt' HP1.out
  have hB1 : B ≤ W1.heap.size := Nat.le_trans hB U1.out.size
  have c1a : ∀ n o, ((W1.drewN n).alloc o).cell? ⟨pa, 1, none⟩ = some (.slice A1 m c1') := fun n o => (World.cell?_of_block (a := ⟨pa, 1, none⟩) (heap_alloc_old (W1.drewN n) o hpl)).trans c1
  have c1b : ∀ o, (W1.alloc o).cell? ⟨pa, 1, none⟩ = some (.slice A1 m c1') := fun o => (World.cell?_of_block (a := ⟨pa, 1, none⟩) (heap_alloc_old W1 o hpl)).trans c1
  rcases hk with rfl | rfl
  all_goals
    go_upto_region 10 with (go_in)
    go_region_law (first
      | (refine step_op W1 _ n (.slice none 0 0) rfl rfl rfl rfl rfl (.tmp 51) (.tmp 53) rfl (.slice A1 m c1') B m hs rfl rfl HH1.out (by omega) hB1 rfl ?_
         intro g cap w2 hown hu hloc
         have hpa := hu.block pa hpl hd
         obtain ⟨c0', c1', c2', c3', f0', f1', f2', f3'⟩ := blk4 (hpa.trans HP1.out)
         have HP2 := Aside.mk (hpa.trans HP1.out)
         have HN := Aside.mk hown
         have U2 := Aside.mk hu
         have HLo := Aside.mk hloc
         clear hown hu hloc hpa))
  all_goals
    go_wp2
    go_ret
    have hgp : g ≠ pa := by
      rintro rfl
      rcases HLo.out with h | h
      · exact hd (mem_bl.mpr h)
      · omega
    refine ⟨rfl, _, ?_, own_frame HN.out (fun j hj => ?_), ?_, ?_⟩
    · rw [Int.natCast_add]
      exact set_at (set_at HP2.out _) _
    · rw [bl_some] at hj
      simp only [List.mem_cons, List.not_mem_nil, or_false] at hj
      subst hj
      rw [Below.heap_setCell _ _ _ _ hgp, Below.heap_setCell _ _ _ _ hgp]
    · exact (((U1.out.mono (by simp)).trans (U2.out.mono (by intro g hg; simp [hg])) (fun g hg _ => hg)).trans (Upd.set (p := ⟨pa, 1, none⟩) (by simp) _) (fun g hg _ => hg)).trans (Upd.set (p := ⟨pa, 2, none⟩) (by simp) _) (fun g hg _ => hg)
    · rcases HLo.out with h | h
      · exact .inl h.symm
      · exact .inr ⟨g, rfl, Nat.le_trans U1.out.size h⟩
end Go.Proofs.YtpepmmfhanaipaaGreatDoor.Lang
end
section
namespace Go.Proofs.YtpepmmfhanaipaaGreatDoor.Lang
open Go.RowKit Go.Shelf
set_option linter.unusedVariables false
set_option linter.unusedSimpArgs false
theorem set_last {k : Nat} (vs : List Value) (a x : Value) (h : vs.length = k) : (vs ++ [a]).set k x = vs ++ [x] := by
  subst h
  rw [List.set_append_right _ _ (Nat.le_refl _), Nat.sub_self, List.set_cons_zero]
set_option maxRecDepth 100000 in
set_option maxHeartbeats 4000000 in
theorem word_plain (w : World) (hL : Laid w) (B pa m j go co : Nat) (vh v1 : Value) (many : Nat) (vs xs : List Value) (s : ByteArray) (hsz : s.size ≤ 281474976710656) (h91 : s ≠ ⟨#[91]⟩) (h93 : s ≠ ⟨#[93]⟩) (hB : B ≤ w.heap.size)
    (hp : w.heap[pa]? = some (.cells #[.slice (some ⟨go, 0, none⟩) (j + 1) co, vh, .bool false, .int .i64 (many : Int)] 244 (0, 0))) {k n : Int} (ho : opOf s = some (k, n)) (hm : many < 128) (hk1 : k ≠ 28) (hk2 : k ≠ 29)
    (hvo : w.ownsRow B 102 1 (.slice (some ⟨go, 0, none⟩) (j + 1) co) (j + 1) (vs ++ [v1])) (h1v : w.ownsRow B 199 3 v1 m xs) (hj : j ≤ 10) (hm1 : m ≤ 128) (d1 : pa ≠ go) (d3 : pa ∉ bl v1) (d5 : go ∉ bl v1) :
    Calls Tryz.prog 174 #[.pointer (some ⟨pa, 0, none⟩), .string s] w fun e w' => e = .returned (.int .i64 0) ∧ ∃ v1', w'.heap[pa]? = some (.cells #[.slice (some ⟨go, 0, none⟩) (j + 1) co, vh, .bool false, .int .i64 ((many + 1 : Nat) : Int)] 244 (0, 0)) ∧
      w'.ownsRow B 102 1 (.slice (some ⟨go, 0, none⟩) (j + 1) co) (j + 1) (vs ++ [v1']) ∧ w'.ownsRow B 199 3 v1' (m + 1) (xs ++ [.int .i64 k, .int .i64 n, .slice none 0 0]) ∧ Upd w w' (pa :: go :: bl v1) ∧ (v1'.ownBlock = v1.ownBlock ∨ ∃ g, v1'.ownBlock = some g ∧ w.heap.size ≤ g) := by
  have h1 := sc_false (l := [91]) h91
  have h2 := sc_false (l := [93]) h93
  have HOP := Aside.mk (op_some s w hL hsz ho)
  have HP := Aside.mk hp
  obtain ⟨A1, c1', rfl⟩ := own_slice h1v
  have hvs : vs.length = j := by have := hvo.1; simp at this; omega
  have HVO := Aside.mk hvo
  have H1V := Aside.mk h1v
  have hne : decide ((many : Int) = 128) = false := decide_eq_false (by omega)
  have hne2 : ((many : Int) == 128) = false := by simp; omega
  have hk1b : (k == 28) = false := by simp; omega
  have hk2b : (k == 29) = false := by simp; omega
  have hw1 : IntKind.i64.wrap ((many : Int) + 1) = (many : Int) + 1 := by
    simp [IntKind.wrap, IntKind.signed, IntKind.bits]
    omega
  clear hp h91 h93 ho hvo h1v
  go_enter Tryz.func174, Tryz.ntmps174
  go_upto_region 9 with (first | (go_at_call 211; refine HOP.out.mono ?_; rintro e w' ⟨rfl, hb⟩; have HB := Aside.mk hb; have hp' := (hb.block pa (blk_lt' HP.out)).trans HP.out; have hp2 : ∀ o, (w'.alloc o).heap[pa]? = some (.cells #[.slice (some ⟨go, 0, none⟩) (j + 1) co, vh, .bool false, .int .i64 (many : Int)] 244 (0, 0)) := fun o => (heap_alloc_old w' o (blk_lt' hp')).trans hp'; have c2 : ∀ o, (w'.alloc o).cell? ⟨pa, 2, none⟩ = some (.bool false) := fun o => (blk4 (hp2 o)).2.2.1; have c3 : ∀ o, (w'.alloc o).cell? ⟨pa, 3, none⟩ = some (.int .i64 (many : Int)) := fun o => (blk4 (hp2 o)).2.2.2.1; have f3 : ∀ o, (w'.alloc o).frozen? ⟨pa, 3, none⟩ = false := fun o => (blk4 (hp2 o)).2.2.2.2.2.2.2; have HP' := Aside.mk hp'; clear hp' hp2 hb))
  obtain ⟨x, hx⟩ : ∃ x, x = w'.heap.size := ⟨_, rfl⟩
  have hpa' := blk_lt' HP'.out
  have U1 := Aside.mk ((((Upd.of_below HB.out [pa]).trans (Upd.alloc w' (.cells #[.int .i64 k, .int .i64 n, .slice none 0 0] 199) [pa]) (fun g hg _ => hg)).trans (Upd.set (p := ⟨pa, 3, none⟩) (by simp) (.int .i64 ((many : Int) + 1))) (fun g hg _ => hg)))
  have HP1 := Aside.mk (set_at (j := 3) ((heap_alloc_old w' (.cells #[.int .i64 k, .int .i64 n, .slice none 0 0] 199) hpa').trans HP'.out) (.int .i64 ((many : Int) + 1)))
  have HX1 := Aside.mk (show ((w'.alloc (.cells #[.int .i64 k, .int .i64 n, .slice none 0 0] 199)).setCell ⟨pa, 3, none⟩ (.int .i64 ((many : Int) + 1))).heap[x]? = some (.cells #[.int .i64 k, .int .i64 n, .slice none 0 0] 199 (0, 0)) by rw [Below.heap_setCell _ _ _ _ (by rw [hx]; exact Nat.ne_of_gt hpa'), hx]; exact heap_alloc_new w' _)
  rw [← hx]
  have HXW := Aside.mk (hx ▸ HB.out.size : w.heap.size ≤ x)
  clear hx c2 c3 f3 hpa'
  generalize (w'.alloc (.cells #[.int .i64 k, .int .i64 n, .slice none 0 0] 199)).setCell ⟨pa, 3, none⟩ (.int .i64 ((many : Int) + 1)) = W1 at U1 HP1 HX1 ⊢
  replace HP1 := Aside.mk (show W1.heap[pa]? = some (.cells #[.slice (some ⟨go, 0, none⟩) (j + 1) co, vh, .bool false, .int .i64 ((many : Int) + 1)] 244 (0, 0)) from HP1.out)
  obtain ⟨c0, c1, c2, c3, f0, f1, f2, f3⟩ := blk4 HP1.out
  obtain ⟨x0, x1, x2, y0, y1, y2⟩ := blk3 HX1.out
  have hpl := blk_lt' HP1.out
  have hB1 : B ≤ W1.heap.size := Nat.le_trans hB U1.out.size
  have HO1 := Aside.mk (U1.out.own HVO.out (fun g hg => by rw [bl_some] at hg; simp only [List.mem_cons, List.not_mem_nil, or_false] at hg ⊢; omega))
  have H11 := Aside.mk (U1.out.own H1V.out (fun g hg => by simp; rintro rfl; exact d3 hg))
  have hgl : go < W1.heap.size := (own_mem HO1.out go (by simp [bl_some])).2
  have b0 := own_cell HO1.out (j := j) (x := .slice A1 m c1') (by rw [List.getElem?_append_right (by omega)]; simp [hvs])
  have hfz := own_live HO1.out j
  have b0b : ∀ n o, ((W1.drewN n).alloc o).cell? ⟨go, j, none⟩ = some (.slice A1 m c1') := fun n o => (World.cell?_of_block (a := ⟨go, j, none⟩) (heap_alloc_old (W1.drewN n) o hgl)).trans b0
  have b0a : ∀ o, (W1.alloc o).cell? ⟨go, j, none⟩ = some (.slice A1 m c1') := fun o => (World.cell?_of_block (a := ⟨go, j, none⟩) (heap_alloc_old W1 o hgl)).trans b0
  have hl : ∀ W : World, W.heap[pa]? = W1.heap[pa]? → Calls Tryz.prog 213 #[.pointer (some ⟨pa, 0, none⟩)] W fun e w' => e = .returned (.pointer (some ⟨go, j, none⟩)) ∧ ∃ q, w' = W.drewN q := fun W hW =>
    last_calls W pa go j co _ _ _ (hW.trans HP1.out) (by omega)
  have HL := Aside.mk hl
  clear hl c0 c1 c2 c3 f0 f1 f2 f3
  go_upto_region 12 with (first | (go_at_call 212; go_in))
  clear y0 y1 y2
  go_region_law (first
    | (go_simp; go_at_call 213; refine (HL.out _ (by first | rfl | exact heap_alloc_old W1 _ (blk_lt' HP1.out))).mono ?_; rintro e w' ⟨rfl, q, rfl⟩)
    | (refine step_op W1 k n (.slice none 0 0) rfl rfl rfl rfl rfl (.tmp 64) (.tmp 66) rfl (.slice A1 m c1') B m xs rfl rfl H11.out (by omega) hB1 rfl ?_
       intro g cap w2 hown hu hloc
       have hgo := hu.block go hgl d5
       have b0' := (World.cell?_of_block (a := ⟨go, j, none⟩) hgo).trans b0
       have hfz' := (World.frozen?_of_block (a := ⟨go, j, none⟩) hgo).trans hfz
       have HN := Aside.mk hown
       have U4 := Aside.mk hu
       have HLo := Aside.mk hloc
       clear hown hu hloc hgo))
  all_goals
    go_wp2
    go_ret
  all_goals
    have hgg : g ≠ go := by
      rintro rfl
      rcases HLo.out with h | h
      · exact d5 (mem_bl.mpr h)
      · omega
    refine ⟨rfl, _, ?_, ?_, own_frame HN.out (fun i hi => ?_), ?_, ?_⟩
    · rw [Below.heap_setCell _ _ _ _ d1, Int.natCast_add]
      exact U4.out.blk HP1.out d3
    · have h5 := own_set (U4.out.own HO1.out (by simpa [bl_some] using d5)) j (by omega) (.slice (some ⟨g, 0, none⟩) (m + 1) cap)
      rw [set_last vs _ _ hvs] at h5
      exact h5
    · rw [bl_some] at hi
      simp only [List.mem_cons, List.not_mem_nil, or_false] at hi
      subst hi
      exact Below.heap_setCell _ _ _ _ hgg
    · exact ((U1.out.mono (by simp)).trans (U4.out.mono (by intro g hg; simp [hg])) (fun g hg _ => hg)).trans (Upd.set (by simp) _) (fun g hg _ => hg)
    · rcases HLo.out with h | h
      · exact .inl h.symm
      · exact .inr ⟨g, rfl, Nat.le_trans U1.out.size h⟩
end Go.Proofs.YtpepmmfhanaipaaGreatDoor.Lang
end
