-- Put together by mergex.py out of this workplace's texts.
import Derived.Test.YtpepmmfhanaipaaGreatDoorJb
import Derived.Test.YtpepmmfhanaipaaGreatDoorJShelfB
namespace Go.Proofs.YtpepmmfhanaipaaGreatDoor.Wk
open Go.RowKit Go.Shelf Go.Proofs.YtpepmmfhanaipaaGreatDoorW.PrintWords Go.Proofs.YtpepmmfhanaipaaGreatDoorW.PrintLast Go.Proofs.YtpepmmfhanaipaaGreatDoorW.PrintMore
set_option linter.unusedVariables false
set_option linter.unusedSimpArgs false
theorem run_len_empty {P : Program} (w : World) (t k e ty : TypeId) (m : Nat) (ht : P.underlying t = some (.map k e)) (hm : w.heap[m]? = some (.map #[] 0)) : (Builtin.len_ #[t] ty #[.map (some m)]).run P w = .ok (.int .i64 0) w := by
  simp only [Builtin.len_, List.getElem?_toArray, List.getElem?_cons_zero, Sem.run_bind, run_underlying ht, Result.andThen, getObj, Sem.run, hm]
  rfl
set_option maxHeartbeats 1000000 in
set_option maxRecDepth 100000 in
theorem c191 (cv : Value) (w : World) : Calls Tryz.prog 191 #[.slice none 0 0, .int .i64 0, .int .i64 0, cv] w fun e w' => e = .returned (.tuple #[]) ∧ Below w.heap.size w w' := by
  have HB := Aside0.mk (Below.refl w.heap.size w)
  go_enter Tryz.func191, Tryz.ntmps191
  go_wp2
  go_loopg [8] 1 (fun kq v8 w' => v8 = .int .i64 1 ∧ Aside0 (kq = 1) ∧ Aside0 (Below w.heap.size w w'))
  case atStart => exact ⟨by first | rfl | simp, ⟨rfl⟩, ⟨(by repeat (first | (with_reducible first | exact HB.out | apply below_alloc | apply pw_below_drewN | apply below_drew1 | apply below_drew) | exact HB.out))⟩⟩
  case round =>
    clear HB
    obtain ⟨rfl, HK, HB⟩ := hrel
    cases gk with
    | zero => exact absurd HK.out (by decide)
    | succ k1 =>
      clear HK
      go_wp2
      go_end0
      exact ⟨rfl, HB.out⟩
set_option maxHeartbeats 1000000 in
set_option maxRecDepth 100000 in
theorem c141 (B m : Nat) (w : World) (h : w.cell? ⟨B, 0, none⟩ = some (.map (some m))) (hm : w.heap[m]? = some (.map #[] 0)) : Calls Tryz.prog 141 #[.func (.func 143) #[] #[.pointer (some ⟨B, 0, none⟩)]] w fun e w' => e = .returned (.slice none 0 0) ∧ Below w.heap.size w w' := by
  have HB := Aside0.mk (Below.refl w.heap.size w)
  go_enter Tryz.func141, Tryz.ntmps141
  go_wp2_with (first | (go_at_call 164; refine (c164 B m _ (by first | exact h | assumption) (by first | exact hm | assumption)).mono ?_; rintro e w1 ⟨rfl, hb⟩; have n0_ := Aside0.mk (below_step (by repeat (first | (with_reducible first | exact HB.out | apply below_alloc | apply pw_below_drewN | apply below_drew1 | apply below_drew) | exact HB.out)) hb); clear HB hb; have HB := n0_; clear n0_))
  go_ret
  exact ⟨rfl, (by repeat (first | (with_reducible first | exact HB.out | apply below_alloc | apply pw_below_drewN | apply below_drew1 | apply below_drew) | exact HB.out))⟩
set_option maxHeartbeats 1000000 in
set_option maxRecDepth 100000 in
theorem c165 (lim : Int) (cv : Value) (w : World) : Calls Tryz.prog 165 #[.slice none 0 0, .int .i64 0, .int .i64 0, .int .i64 lim, cv] w fun e w' => e = .returned (.tuple #[]) ∧ Below w.heap.size w w' := by
  have HB := Aside0.mk (Below.refl w.heap.size w)
  go_enter Tryz.func165, Tryz.ntmps165
  go_wp2
  go_loopg [1, 2, 3, 10, 11] 1 (fun kq v1 v2 v3 v10 v11 w' => v1 = .int .i64 0 ∧ v2 = .int .i64 0 ∧ v3 = .int .i64 lim ∧ v10 = .bool true ∧ v11 = .bool true ∧ Aside0 (kq = 1) ∧ Aside0 (Below w.heap.size w w'))
  case atStart => exact ⟨by first | rfl | simp, by first | rfl | simp, by first | rfl | simp, by first | rfl | simp, by first | rfl | simp, ⟨rfl⟩, ⟨(by repeat (first | (with_reducible first | exact HB.out | apply below_alloc | apply pw_below_drewN | apply below_drew1 | apply below_drew) | exact HB.out))⟩⟩
  case round =>
    clear HB
    obtain ⟨rfl, rfl, rfl, rfl, rfl, HK, HB⟩ := hrel
    cases gk with
    | zero => exact absurd HK.out (by decide)
    | succ k1 =>
      clear HK
      go_wp2_with (first | (go_at_call 191; refine (c191 cv _).mono ?_; rintro e w1 ⟨rfl, hb⟩; have n0_ := Aside0.mk (below_step (by repeat (first | (with_reducible first | exact HB.out | apply below_alloc | apply pw_below_drewN | apply below_drew1 | apply below_drew) | exact HB.out)) hb); clear HB hb; have HB := n0_; clear n0_))
      refine bodyPost_ret (results_none rfl _ _ _) rfl ?_
      exact ⟨rfl, HB.out⟩
set_option maxHeartbeats 1000000 in
set_option maxRecDepth 100000 in
theorem c142 (cv : Value) (w : World) : Calls Tryz.prog 142 #[.slice none 0 0, cv] w fun e w' => e = .returned (.tuple #[]) ∧ Below w.heap.size w w' := by
  have HB := Aside0.mk (Below.refl w.heap.size w)
  go_enter Tryz.func142, Tryz.ntmps142
  go_wp2_with (first | (go_at_call 163; refine (Tryz.bits_Len 0 _ (by decide) (by decide)).mono ?_; rintro e w1 ⟨rfl, rfl⟩) | (go_at_call 165; refine (c165 _ cv _).mono ?_; rintro e w1 ⟨rfl, hb⟩; have n0_ := Aside0.mk (below_step (by repeat (first | (with_reducible first | exact HB.out | apply below_alloc | apply pw_below_drewN | apply below_drew1 | apply below_drew) | exact HB.out)) hb); clear HB hb; have HB := n0_; clear n0_))
  go_end0
  exact ⟨rfl, (by repeat (first | (with_reducible first | exact HB.out | apply below_alloc | apply pw_below_drewN | apply below_drew1 | apply below_drew) | exact HB.out))⟩
set_option maxHeartbeats 1000000 in
set_option maxRecDepth 100000 in
theorem c109 (cv : Value) (B m : Nat) (w : World) (h : w.cell? ⟨B, 0, none⟩ = some (.map (some m))) (hm : w.heap[m]? = some (.map #[] 0)) : Calls Tryz.prog 109 #[.func (.func 143) #[] #[.pointer (some ⟨B, 0, none⟩)], cv] w fun e w' => e = .returned (.slice none 0 0) ∧ Below w.heap.size w w' := by
  have HB := Aside0.mk (Below.refl w.heap.size w)
  go_enter Tryz.func109, Tryz.ntmps109
  go_wp2_with (first | (go_at_call 141; refine (c141 B m _ (by first | exact h | assumption) (by first | exact hm | assumption)).mono ?_; rintro e w1 ⟨rfl, hb⟩; have n0_ := Aside0.mk (below_step (by repeat (first | (with_reducible first | exact HB.out | apply below_alloc | apply pw_below_drewN | apply below_drew1 | apply below_drew) | exact HB.out)) hb); clear HB hb; have HB := n0_; clear n0_) | (go_at_call 142; refine (c142 cv _).mono ?_; rintro e w1 ⟨rfl, hb⟩; have n0_ := Aside0.mk (below_step (by repeat (first | (with_reducible first | exact HB.out | apply below_alloc | apply pw_below_drewN | apply below_drew1 | apply below_drew) | exact HB.out)) hb); clear HB hb; have HB := n0_; clear n0_))
  go_ret
  exact ⟨rfl, (by repeat (first | (with_reducible first | exact HB.out | apply below_alloc | apply pw_below_drewN | apply below_drew1 | apply below_drew) | exact HB.out))⟩
set_option maxHeartbeats 1000000 in
set_option maxRecDepth 100000 in
theorem c77 (g m : Nat) (w : World) (hg : w.heap[g]? = some (.cells #[.int .i64 1, .int .i64 0, .map (some m), .bool false] 172 (0, 0))) (hm : w.heap[m]? = some (.map #[] 0)) : Calls Tryz.prog 77 #[.pointer (some ⟨g, 0, none⟩)] w fun e w' => e = .returned (.tuple #[.slice none 0 0, .int .i64 0]) ∧ Below w.heap.size w w' := by
  have HB := Aside0.mk (Below.refl w.heap.size w)
  have HG := Aside0.mk hg
  have HM := Aside0.mk hm
  obtain ⟨k0, k1, k2, k3⟩ := And.intro (blk_cell hg 0) (And.intro (blk_cell hg 1) (And.intro (blk_cell hg 2) (blk_cell hg 3)))
  simp at k0 k1 k2 k3
  have hlen := fun ty => run_len_empty (P := Tryz.prog) w 170 78 91 ty m Tryz.underlying170 hm
  clear hg
  go_enter Tryz.func77, Tryz.ntmps77
  go_wp2_with (first
    | (go_at_call 110; refine (c110 m _).mono ?_; rintro e w1 ⟨rfl, rfl⟩)
    | (go_at_call 109; refine (c109 _ _ m _ (new_cell_c _ _ _) (blk_alloc HM.out _)).mono ?_; rintro e w1 ⟨rfl, hb⟩; have n0_ := Aside0.mk (below_step (by repeat (first | (with_reducible first | exact HB.out | apply below_alloc | apply pw_below_drewN | apply below_drew1 | apply below_drew) | exact HB.out)) hb); clear HB hb; have HB := n0_; clear n0_))
  go_loopg [4, 24] 1 (fun kq v4 v24 w' => v4 = .slice none 0 0 ∧ v24 = .int .i64 0 ∧ Aside0 (kq = 1) ∧ Aside0 (Below w.heap.size w w'))
  case atStart => exact ⟨rfl, rfl, ⟨rfl⟩, ⟨(by repeat (first | (with_reducible first | exact HB.out | apply below_alloc | apply pw_below_drewN | apply below_drew1 | apply below_drew) | exact HB.out))⟩⟩
  case round =>
    clear HB
    obtain ⟨rfl, rfl, HK, HB⟩ := hrel
    cases gk with
    | zero => exact absurd HK.out (by decide)
    | succ k1 =>
      clear HK
      go_wp2
      go_ret2
      exact ⟨rfl, HB.out⟩
set_option maxHeartbeats 1000000 in
set_option maxRecDepth 100000 in
theorem c37 (w : World) : Calls Tryz.prog 37 #[.int .i64 1, .int .i64 0, .slice none 0 0] w fun e w' => e = .returned (.tuple #[.slice none 0 0, .int .i64 0]) ∧ Below w.heap.size w w' := by
  have HB := Aside0.mk (Below.refl w.heap.size w)
  go_enter Tryz.func37, Tryz.ntmps37
  go_wp2_with (first
    | (go_at_call 35; refine (c35 _).mono ?_; rintro e w1 ⟨rfl, hb⟩; have n0_ := Aside0.mk (below_step (by repeat (first | (with_reducible first | exact HB.out | apply below_alloc | apply pw_below_drewN | apply below_drew1 | apply below_drew) | exact HB.out)) hb); clear HB hb; have HB := n0_; clear n0_)
    | (go_at_call 74; refine (c74 _).mono ?_; rintro e w2 ⟨rfl, rfl⟩))
  have HG : Aside0 (((w1.alloc (.map #[] 0)).alloc (.cells #[.int .i64 1, .int .i64 0, .map (some w1.heap.size), .bool false] 172)).heap[w1.heap.size + 1]? = some (.cells #[.int .i64 1, .int .i64 0, .map (some w1.heap.size), .bool false] 172 (0, 0))) := ⟨by
    have := heap_alloc_new (w1.alloc (.map #[] 0)) (.cells #[.int .i64 1, .int .i64 0, .map (some w1.heap.size), .bool false] 172)
    simpa using this⟩
  have HM : Aside0 (((w1.alloc (.map #[] 0)).alloc (.cells #[.int .i64 1, .int .i64 0, .map (some w1.heap.size), .bool false] 172)).heap[w1.heap.size]? = some (.map #[] 0)) := ⟨blk_alloc (heap_alloc_new w1 _) _⟩
  have HB2 := Aside0.mk (below_alloc (below_alloc HB.out (.map #[] 0)) (.cells #[.int .i64 1, .int .i64 0, .map (some w1.heap.size), .bool false] 172))
  generalize (w1.alloc (.map #[] 0)).alloc (.cells #[.int .i64 1, .int .i64 0, .map (some w1.heap.size), .bool false] 172) = W2 at HG HM HB2 ⊢
  clear HB
  have HB := HB2
  clear HB2
  generalize w1.heap.size + 1 = g at HG ⊢
  generalize w1.heap.size = m at HG HM ⊢
  go_loopg [23] 1 (fun kq v23 w' => v23 = .int .i64 0 ∧ Aside0 (kq = 1) ∧ w' = W2)
  case atStart => exact ⟨rfl, ⟨rfl⟩, rfl⟩
  case round =>
    obtain ⟨rfl, HK, rfl⟩ := hrel
    cases gk with
    | zero => exact absurd HK.out (by decide)
    | succ k1 =>
      clear HK
      go_wp2_with (first | (go_at_call 77; refine (c77 g m _ HG.out HM.out).mono ?_; rintro e w3 ⟨rfl, hb⟩; have n0_ := Aside0.mk (below_step (by repeat (first | (with_reducible first | exact HB.out | apply below_alloc | apply pw_below_drewN | apply below_drew1 | apply below_drew) | exact HB.out)) hb); clear HB hb; have HB := n0_; clear n0_))
      go_ret2
      exact ⟨rfl, HB.out⟩
end Go.Proofs.YtpepmmfhanaipaaGreatDoor.Wk
