/-
  Walks over package lang: a word that is an op.
-/
import Derived.Test.YtbadcpaopdbgnaaDoorLangF
namespace Go.Proofs.YtbadcpaopdbgnaaDoor.Lang
open Go.RowKit Go.Shelf
set_option linter.unusedVariables false
set_option linter.unusedSimpArgs false

theorem op_some (s : ByteArray) (w : World) (hL : Laid w) (hs : s.size ≤ 281474976710656) {k n : Int} (h : opOf s = some (k, n)) : Calls Tryd.prog 34 #[.string s] w fun e w' => e = .returned (.tuple #[.agg #[.int .i64 k, .int .i64 n, .slice none 0 0], .bool true]) ∧ Below w.heap.size w w' :=
  (op_calls s w hL hs).mono fun e w' ⟨p, he, hp, hb⟩ => by
    obtain rfl := hp _ h
    rw [h] at he
    exact ⟨he, hb⟩

set_option maxRecDepth 100000 in
set_option maxHeartbeats 4000000 in
/-- One op too many. -/
theorem word_limit (w : World) (hL : Laid w) (pa : Nat) (vo vh : Value) (s : ByteArray) (hsz : s.size ≤ 281474976710656) (h91 : s ≠ ⟨#[91]⟩) (h93 : s ≠ ⟨#[93]⟩)
    (hp : w.heap[pa]? = some (.cells #[vo, vh, .bool false, .int .i64 128] 52 (0, 0))) {k n : Int} (ho : opOf s = some (k, n)) :
    Calls Tryd.prog 24 #[.pointer (some ⟨pa, 0, none⟩), .string s] w fun e w' => e = .returned (.int .i64 2) ∧ Upd w w' [] := by
  have h1 := sc_false (l := [91]) h91
  have h2 := sc_false (l := [93]) h93
  have HOP := Aside.mk (op_some s w hL hsz ho)
  have HP := Aside.mk hp
  clear hp h91 h93 ho
  go_enter Tryd.func24, Tryd.ntmps24
  go_wp2_with (first | (go_at_call 34; refine HOP.out.mono ?_; rintro e w' ⟨rfl, hb⟩; have HB := Aside.mk hb; have hp' := (hb.block pa (blk_lt' HP.out)).trans HP.out; have hp2 : ∀ o, (w'.alloc o).heap[pa]? = some (.cells #[vo, vh, .bool false, .int .i64 128] 52 (0, 0)) := fun o => (heap_alloc_old w' o (blk_lt' hp')).trans hp'; have c2 : ∀ o, (w'.alloc o).cell? ⟨pa, 2, none⟩ = some (.bool false) := fun o => (blk4 (hp2 o)).2.2.1; have c3 : ∀ o, (w'.alloc o).cell? ⟨pa, 3, none⟩ = some (.int .i64 128) := fun o => (blk4 (hp2 o)).2.2.2.1; clear hp' hp2 hb))
  go_ret
  exact ⟨rfl, (Upd.of_below HB.out []).trans (Upd.alloc _ _ []) (fun g hg _ => hg)⟩

set_option maxRecDepth 100000 in
set_option maxHeartbeats 4000000 in
/-- An op that has a block. -/
theorem word_head (w : World) (hL : Laid w) (B pa m : Nat) (vo vh : Value) (many : Nat) (hs : List Value) (s : ByteArray) (hsz : s.size ≤ 281474976710656) (h91 : s ≠ ⟨#[91]⟩) (h93 : s ≠ ⟨#[93]⟩) (hB : B ≤ w.heap.size)
    (hp : w.heap[pa]? = some (.cells #[vo, vh, .bool false, .int .i64 (many : Int)] 52 (0, 0))) {k n : Int} (ho : opOf s = some (k, n)) (hm : many < 128) (hk : k = 28 ∨ k = 29)
    (hh : w.ownsRow B 62 3 vh m hs) (hm1 : m ≤ 128) (hd : pa ∉ bl vh) :
    Calls Tryd.prog 24 #[.pointer (some ⟨pa, 0, none⟩), .string s] w fun e w' => e = .returned (.int .i64 0) ∧ ∃ vh', w'.heap[pa]? = some (.cells #[vo, vh', .bool true, .int .i64 ((many + 1 : Nat) : Int)] 52 (0, 0)) ∧
      w'.ownsRow B 62 3 vh' (m + 1) (hs ++ [.int .i64 k, .int .i64 n, .slice none 0 0]) ∧ Upd w w' (pa :: bl vh) ∧ (vh'.ownBlock = vh.ownBlock ∨ ∃ g, vh'.ownBlock = some g ∧ w.heap.size ≤ g) := by
  have h1 := sc_false (l := [91]) h91
  have h2 := sc_false (l := [93]) h93
  have HOP := Aside.mk (op_some s w hL hsz ho)
  have HP := Aside.mk hp
  obtain ⟨A1, c1', rfl⟩ := own_slice hh
  have HH := Aside.mk hh
  have hne : decide ((many : Int) = 128) = false := decide_eq_false (by omega)
  have hne2 : ((many : Int) == 128) = false := by simp; omega
  have hw1 : IntKind.i64.wrap ((many : Int) + 1) = (many : Int) + 1 := by
    simp [IntKind.wrap, IntKind.signed, IntKind.bits]
    omega
  clear hp h91 h93 ho hh
  go_enter Tryd.func24, Tryd.ntmps24
  go_upto_region 9 with (first | (go_at_call 34; refine HOP.out.mono ?_; rintro e w' ⟨rfl, hb⟩; have HB := Aside.mk hb; have hp' := (hb.block pa (blk_lt' HP.out)).trans HP.out; have hp2 : ∀ o, (w'.alloc o).heap[pa]? = some (.cells #[vo, .slice A1 m c1', .bool false, .int .i64 (many : Int)] 52 (0, 0)) := fun o => (heap_alloc_old w' o (blk_lt' hp')).trans hp'; have c2 : ∀ o, (w'.alloc o).cell? ⟨pa, 2, none⟩ = some (.bool false) := fun o => (blk4 (hp2 o)).2.2.1; have c3 : ∀ o, (w'.alloc o).cell? ⟨pa, 3, none⟩ = some (.int .i64 (many : Int)) := fun o => (blk4 (hp2 o)).2.2.2.1; have f3 : ∀ o, (w'.alloc o).frozen? ⟨pa, 3, none⟩ = false := fun o => (blk4 (hp2 o)).2.2.2.2.2.2.2; have HP' := Aside.mk hp'; clear hp' hp2 hb))
  obtain ⟨x, hx⟩ : ∃ x, x = w'.heap.size := ⟨_, rfl⟩
  have hpa' := blk_lt' HP'.out
  have U1 := Aside.mk ((((Upd.of_below HB.out [pa]).trans (Upd.alloc w' (.cells #[.int .i64 k, .int .i64 n, .slice none 0 0] 62) [pa]) (fun g hg _ => hg)).trans (Upd.set (p := ⟨pa, 3, none⟩) (by simp) (.int .i64 ((many : Int) + 1))) (fun g hg _ => hg)))
  have HP1 := Aside.mk (set_at (j := 3) ((heap_alloc_old w' (.cells #[.int .i64 k, .int .i64 n, .slice none 0 0] 62) hpa').trans HP'.out) (.int .i64 ((many : Int) + 1)))
  have HX1 := Aside.mk (show ((w'.alloc (.cells #[.int .i64 k, .int .i64 n, .slice none 0 0] 62)).setCell ⟨pa, 3, none⟩ (.int .i64 ((many : Int) + 1))).heap[x]? = some (.cells #[.int .i64 k, .int .i64 n, .slice none 0 0] 62 (0, 0)) by rw [Below.heap_setCell _ _ _ _ (by rw [hx]; exact Nat.ne_of_gt hpa'), hx]; exact heap_alloc_new w' _)
  rw [← hx]
  have HXW := Aside.mk (hx ▸ HB.out.size : w.heap.size ≤ x)
  clear hx c2 c3 f3 hpa'
  generalize (w'.alloc (.cells #[.int .i64 k, .int .i64 n, .slice none 0 0] 62)).setCell ⟨pa, 3, none⟩ (.int .i64 ((many : Int) + 1)) = W1 at U1 HP1 HX1 ⊢
  replace HP1 := Aside.mk (show W1.heap[pa]? = some (.cells #[vo, .slice A1 m c1', .bool false, .int .i64 ((many : Int) + 1)] 52 (0, 0)) from HP1.out)
  have HH1 := Aside.mk (U1.out.own HH.out (fun g hg => by simp; rintro rfl; exact hd hg))
  obtain ⟨c0, c1, c2, c3, f0, f1, f2, f3⟩ := blk4 HP1.out
  obtain ⟨x0, x1, x2, y0, y1, y2⟩ := blk3 HX1.out
  have hpl := blk_lt' HP1.out
  have hB1 : B ≤ W1.heap.size := Nat.le_trans hB U1.out.size
  have c1a : ∀ n o, ((W1.drewN n).alloc o).cell? ⟨pa, 1, none⟩ = some (.slice A1 m c1') := fun n o => (World.cell?_of_block (a := ⟨pa, 1, none⟩) (heap_alloc_old (W1.drewN n) o hpl)).trans c1
  have c1b : ∀ o, (W1.alloc o).cell? ⟨pa, 1, none⟩ = some (.slice A1 m c1') := fun o => (World.cell?_of_block (a := ⟨pa, 1, none⟩) (heap_alloc_old W1 o hpl)).trans c1
  rcases hk with rfl | rfl
  all_goals
    go_upto_region 10 with (go_in)
    go_region_law (first
      | (refine step_op W1 _ n (.slice none 0 0) rfl rfl rfl rfl rfl (.tmp 51) (.tmp 53) rfl (.slice A1 m c1') B m hs rfl rfl HH1.out (by omega) hB1 rfl ?_
         intro g cap w2 hown hu hloc
         have hpa := hu.block pa hpl hd
         obtain ⟨c0', c1', c2', c3', f0', f1', f2', f3'⟩ := blk4 (hpa.trans HP1.out)
         have HP2 := Aside.mk (hpa.trans HP1.out)
         have HN := Aside.mk hown
         have U2 := Aside.mk hu
         have HLo := Aside.mk hloc
         clear hown hu hloc hpa))
  all_goals
    go_wp2
    go_ret
    have hgp : g ≠ pa := by
      rintro rfl
      rcases HLo.out with h | h
      · exact hd (mem_bl.mpr h)
      · omega
    refine ⟨rfl, _, ?_, own_frame HN.out (fun j hj => ?_), ?_, ?_⟩
    · rw [Int.natCast_add]
      exact set_at (set_at HP2.out _) _
    · rw [bl_some] at hj
      simp only [List.mem_cons, List.not_mem_nil, or_false] at hj
      subst hj
      rw [Below.heap_setCell _ _ _ _ hgp, Below.heap_setCell _ _ _ _ hgp]
    · exact (((U1.out.mono (by simp)).trans (U2.out.mono (by intro g hg; simp [hg])) (fun g hg _ => hg)).trans (Upd.set (p := ⟨pa, 1, none⟩) (by simp) _) (fun g hg _ => hg)).trans (Upd.set (p := ⟨pa, 2, none⟩) (by simp) _) (fun g hg _ => hg)
    · rcases HLo.out with h | h
      · exact .inl h.symm
      · exact .inr ⟨g, rfl, Nat.le_trans U1.out.size h⟩
end Go.Proofs.YtbadcpaopdbgnaaDoor.Lang
