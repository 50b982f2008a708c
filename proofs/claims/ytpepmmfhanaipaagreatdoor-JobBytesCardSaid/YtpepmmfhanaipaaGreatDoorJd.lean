-- Put together by mergex.py out of this workplace's texts.
import Derived.Test.YtpepmmfhanaipaaGreatDoorJc
import Derived.Test.YtpepmmfhanaipaaGreatDoorJh
import Derived.Test.YtpepmmfhanaipaaGreatDoorJShelf
import Derived.Test.YtpepmmfhanaipaaGreatDoorJPJobBytesTa
import Derived.Laws.Rows
section
namespace Go.Proofs.YtpepmmfhanaipaaGreatDoor.Wk
open Go.RowKit Go.Shelf Go.Proofs.YtpepmmfhanaipaaGreatDoorW.PrintWords Go.Proofs.YtpepmmfhanaipaaGreatDoorW.PrintLast Go.Proofs.YtpepmmfhanaipaaGreatDoorW.PrintMore
set_option linter.unusedVariables false
set_option linter.unusedSimpArgs false
theorem parsed0 : Lang.parsed ⟨#[]⟩ = .ok .nil := by kernel_rfl
theorem parsedb : Lang.parsed ⟨#[98]⟩ = .error 7 := by kernel_rfl
set_option maxHeartbeats 1000000 in
set_option maxRecDepth 100000 in
theorem c254 (A : Option Addr) (c : Nat) (w : World) : Calls Tryz.prog 254 #[.slice A 0 c, .int .i64 0] w fun e w' => e = .returned (.int .i64 0) ∧ Below w.heap.size w w' := by
  have HB := Aside0.mk (Below.refl w.heap.size w)
  go_enter Tryz.func254, Tryz.ntmps254
  go_wp2
  go_loopg [5, 11] 1 (fun kq v5 v11 w' => v5 = .int .i64 0 ∧ v11 = .int .i64 0 ∧ Aside0 (kq = 1) ∧ Aside0 (Below w.heap.size w w'))
  case atStart => exact ⟨rfl, rfl, ⟨rfl⟩, ⟨(by repeat (first | (with_reducible first | exact HB.out | apply below_alloc | apply pw_below_drewN | apply below_drew1 | apply below_drew) | exact HB.out))⟩⟩
  case round =>
    clear HB
    obtain ⟨rfl, rfl, HK, HB⟩ := hrel
    cases gk with
    | zero => exact absurd HK.out (by decide)
    | succ k1 =>
      clear HK
      go_wp2
      go_ret
      exact ⟨rfl, (by repeat (first | (with_reducible first | exact HB.out | apply below_alloc | apply pw_below_drewN | apply below_drew1 | apply below_drew) | exact HB.out))⟩
set_option maxHeartbeats 1000000 in
set_option maxRecDepth 100000 in
theorem c241 (A : Option Addr) (c : Nat) (w : World) : Calls Tryz.prog 241 #[.slice A 0 c] w fun e w' => e = .returned (.tuple #[.int .i64 0, .int .i64 0]) ∧ Below w.heap.size w w' := by
  have HB := Aside0.mk (Below.refl w.heap.size w)
  go_enter Tryz.func241, Tryz.ntmps241
  go_wp2_with (first | (go_at_call 254; refine (c254 A c _).mono ?_; rintro e w1 ⟨rfl, hb⟩; have n0_ := Aside0.mk (below_step (by repeat (first | (with_reducible first | exact HB.out | apply below_alloc | apply pw_below_drewN | apply below_drew1 | apply below_drew) | exact HB.out)) hb); clear HB hb; have HB := n0_; clear n0_))
  go_ret2
  exact ⟨rfl, (by repeat (first | (with_reducible first | exact HB.out | apply below_alloc | apply pw_below_drewN | apply below_drew1 | apply below_drew) | exact HB.out))⟩
set_option maxHeartbeats 1000000 in
set_option maxRecDepth 100000 in
theorem c214 (A : Option Addr) (c : Nat) (w : World) : Calls Tryz.prog 214 #[.slice A 0 c] w fun e w' => e = .returned (.int .i64 0) ∧ Below w.heap.size w w' := by
  have HB := Aside0.mk (Below.refl w.heap.size w)
  go_enter Tryz.func214, Tryz.ntmps214
  go_wp2_with (first | (go_at_call 241; refine (c241 A c _).mono ?_; rintro e w1 ⟨rfl, hb⟩; have n0_ := Aside0.mk (below_step (by repeat (first | (with_reducible first | exact HB.out | apply below_alloc | apply pw_below_drewN | apply below_drew1 | apply below_drew) | exact HB.out)) hb); clear HB hb; have HB := n0_; clear n0_))
  go_ret
  exact ⟨rfl, (by repeat (first | (with_reducible first | exact HB.out | apply below_alloc | apply pw_below_drewN | apply below_drew1 | apply below_drew) | exact HB.out))⟩
set_option maxHeartbeats 1000000 in
set_option maxRecDepth 100000 in
theorem c215 (A : Option Addr) (c : Nat) (g : Nat) (w : World) (hg : w.heap[g]? = some (.cells #[.int .i64 0, .int .i64 0] 283 (0, 0))) : Calls Tryz.prog 215 #[.pointer (some ⟨g, 0, none⟩), .slice A 0 c] w fun e w' => e = .returned (.int .i64 0) ∧ Below w.heap.size w w' := by
  have HB := Aside0.mk (Below.refl w.heap.size w)
  obtain ⟨k0, k1⟩ := And.intro (blk_cell hg 0) (blk_cell hg 1)
  simp at k0 k1
  clear hg
  go_enter Tryz.func215, Tryz.ntmps215
  go_wp2
  go_loopg [17] 1 (fun kq v17 w' => v17 = .int .i64 0 ∧ Aside0 (kq = 1) ∧ Aside0 (Below w.heap.size w w'))
  case atStart => exact ⟨rfl, ⟨rfl⟩, ⟨(by repeat (first | (with_reducible first | exact HB.out | apply below_alloc | apply pw_below_drewN | apply below_drew1 | apply below_drew) | exact HB.out))⟩⟩
  case round =>
    clear HB
    obtain ⟨rfl, HK, HB⟩ := hrel
    cases gk with
    | zero => exact absurd HK.out (by decide)
    | succ k1 =>
      clear HK
      go_wp2
      go_ret
      exact ⟨rfl, (by repeat (first | (with_reducible first | exact HB.out | apply below_alloc | apply pw_below_drewN | apply below_drew1 | apply below_drew) | exact HB.out))⟩
set_option maxHeartbeats 1000000 in
set_option maxRecDepth 100000 in
theorem c175 (A : Option Addr) (c : Nat) (w : World) : Calls Tryz.prog 175 #[.slice A 0 c] w fun e w' => e = .returned (.tuple #[.int .i64 0, .int .i64 0, .int .i64 0]) ∧ Below w.heap.size w w' := by
  have HB := Aside0.mk (Below.refl w.heap.size w)
  go_enter Tryz.func175, Tryz.ntmps175
  go_upto_region 5 with (first | (go_at_call 214; refine (c214 A c _).mono ?_; rintro e w1 ⟨rfl, hb⟩; have n0_ := Aside0.mk (below_step (by repeat (first | (with_reducible first | exact HB.out | apply below_alloc | apply pw_below_drewN | apply below_drew1 | apply below_drew) | exact HB.out)) hb); clear HB hb; have HB := n0_; clear n0_))
  have HG := Aside0.mk (heap_alloc_new w1 (.cells #[.int .i64 0, .int .i64 0] 283))
  have HB2 := Aside0.mk (below_alloc HB.out (.cells #[.int .i64 0, .int .i64 0] 283))
  generalize w1.alloc (.cells #[.int .i64 0, .int .i64 0] 283) = W at HG HB2 ⊢
  generalize w1.heap.size = g at HG ⊢
  clear HB
  have HB := HB2
  clear HB2
  go_upto_region 8 with (first | (go_at_call 215; refine (c215 A c g _ HG.out).mono ?_; rintro e w2 ⟨rfl, hb⟩; have HG2 := Aside0.mk ((hb.block _ (lt_blk HG.out)).trans HG.out); have n0_ := Aside0.mk (below_step (by repeat (first | (with_reducible first | exact HB.out | apply below_alloc | apply pw_below_drewN | apply below_drew1 | apply below_drew) | exact HB.out)) hb); clear HB hb; have HB := n0_; clear n0_))
  obtain ⟨k0, k1⟩ := And.intro (blk_cell HG2.out 0) (blk_cell HG2.out 1)
  simp at k0 k1
  go_region
  all_goals
    go_wp2
    go_ret3
    exact ⟨rfl, by repeat (first | exact HB.out | apply below_drew | apply below_drew1)⟩
set_option maxHeartbeats 1000000 in
set_option maxRecDepth 100000 in
theorem c159 (A : Option Addr) (c : Nat) (w : World) : Calls Tryz.prog 159 #[.slice A 0 c] w fun e w' => e = .returned (.int .i64 0) ∧ Below w.heap.size w w' := by
  have HB := Aside0.mk (Below.refl w.heap.size w)
  go_enter Tryz.func159, Tryz.ntmps159
  go_wp2_with (first | (go_at_call 175; refine (c175 A c _).mono ?_; rintro e w1 ⟨rfl, hb⟩; have n0_ := Aside0.mk (below_step (by repeat (first | (with_reducible first | exact HB.out | apply below_alloc | apply pw_below_drewN | apply below_drew1 | apply below_drew) | exact HB.out)) hb); clear HB hb; have HB := n0_; clear n0_))
  go_ret
  exact ⟨rfl, (by repeat (first | (with_reducible first | exact HB.out | apply below_alloc | apply pw_below_drewN | apply below_drew1 | apply below_drew) | exact HB.out))⟩
set_option maxHeartbeats 1000000 in
set_option maxRecDepth 100000 in
theorem own_zero {w : World} {B e size : Nat} {v : Value} {xs : List Value} (h : w.ownsRow B e size v 0 xs) : ∃ A c, v = .slice A 0 c := by
  rcases h.2 with ⟨rfl, _⟩ | ⟨g, cap, cur, rfl, _⟩
  · exact ⟨_, _, rfl⟩
  · exact ⟨_, _, rfl⟩
set_option maxHeartbeats 1000000 in
set_option maxRecDepth 100000 in
theorem c158 (w : World) (hL : Lang.Laid w) : Calls Tryz.prog 158 #[.string ⟨#[]⟩] w fun e w' => (∃ A c, e = .returned (.tuple #[.slice A 0 c, .int .i64 0])) ∧ Below w.heap.size w w' :=
  (Lang.parse_calls ⟨#[]⟩ w hL).mono fun e w' ⟨hb, _, ho⟩ => by
    obtain ⟨v, F, he, ⟨xs, F', _, hr, _⟩, _⟩ := ho .nil parsed0
    obtain ⟨A, c, rfl⟩ := own_zero hr
    exact ⟨⟨A, c, he⟩, hb⟩
set_option maxHeartbeats 1000000 in
set_option maxRecDepth 100000 in
theorem c158b (w : World) (hL : Lang.Laid w) : Calls Tryz.prog 158 #[.string ⟨#[98]⟩] w fun e w' => e = .returned (.tuple #[.slice none 0 0, .int .i64 7]) ∧ Below w.heap.size w w' :=
  (Lang.parse_calls ⟨#[98]⟩ w hL).mono fun e w' ⟨hb, he, _⟩ => ⟨he 7 parsedb, hb⟩
end Go.Proofs.YtpepmmfhanaipaaGreatDoor.Wk
end
section
namespace Go.Proofs.YtpepmmfhanaipaaGreatDoor.Wk
open Go.RowKit Go.Shelf Go.Proofs.YtpepmmfhanaipaaGreatDoorW.PrintWords Go.Proofs.YtpepmmfhanaipaaGreatDoorW.PrintLast Go.Proofs.YtpepmmfhanaipaaGreatDoorW.PrintMore
set_option linter.unusedVariables false
set_option linter.unusedSimpArgs false
set_option maxHeartbeats 1000000 in
set_option maxRecDepth 100000 in
theorem c135 (id : Int) (sp : Value) (pt : Int) (w : World) (hL : Lang.Laid w) : Calls Tryz.prog 135 #[.agg #[.int .i64 id, .string ⟨#[]⟩, .int .i64 1, .int .i64 0, .int .i64 0, sp, .int .i64 pt]] w fun e w' => (∃ A c, e = .returned (.tuple #[.slice A 0 c, .int .i64 0])) ∧ Below w.heap.size w w' := by
  go_enter Tryz.func135, Tryz.ntmps135
  go_upto_region 1 with (fail)
  have HK := Aside0.mk (heap_alloc_new w (.cells #[.int .i64 id, .string ⟨#[]⟩, .int .i64 1, .int .i64 0, .int .i64 0, sp, .int .i64 pt] 63))
  have HB := Aside0.mk (below_alloc (Below.refl w.heap.size w) (.cells #[.int .i64 id, .string ⟨#[]⟩, .int .i64 1, .int .i64 0, .int .i64 0, sp, .int .i64 pt] 63))
  generalize w.alloc (.cells #[.int .i64 id, .string ⟨#[]⟩, .int .i64 1, .int .i64 0, .int .i64 0, sp, .int .i64 pt] 63) = W at HK HB ⊢
  obtain ⟨b, hb⟩ : ∃ b, b = w.heap.size := ⟨_, rfl⟩
  replace HK : Aside0 (W.heap[b]? = _) := ⟨hb ▸ HK.out⟩
  rw [← hb]
  clear hb
  obtain ⟨m0, m1, m2, m3, m4, m5, m6, -⟩ := PJobBytes.blkall_7 HK.out
  go_wp2_with (first
    | (go_at_call 158; refine (c158 _ (hL.below HB.out)).mono ?_; rintro e w1 ⟨⟨A, c, rfl⟩, hb⟩; have HK3 := Aside0.mk ((hb.block _ (lt_blk HK.out)).trans HK.out); clear HK m0 m1 m2 m3 m4 m5 m6; have HK := HK3; clear HK3; obtain ⟨m0, m1, m2, m3, m4, m5, m6, -⟩ := PJobBytes.blkall_7 HK.out; have n0_ := Aside0.mk (below_step (by repeat (first | (with_reducible first | exact HB.out | apply below_alloc | apply pw_below_drewN | apply below_drew1 | apply below_drew) | exact HB.out)) hb); clear HB hb; have HB := n0_; clear n0_)
    | (go_at_call 159; refine (c159 A c _).mono ?_; rintro e w1 ⟨rfl, hb⟩; have HK3 := Aside0.mk ((hb.block _ (lt_blk HK.out)).trans HK.out); clear HK m0 m1 m2 m3 m4 m5 m6; have HK := HK3; clear HK3; obtain ⟨m0, m1, m2, m3, m4, m5, m6, -⟩ := PJobBytes.blkall_7 HK.out; have n0_ := Aside0.mk (below_step (by repeat (first | (with_reducible first | exact HB.out | apply below_alloc | apply pw_below_drewN | apply below_drew1 | apply below_drew) | exact HB.out)) hb); clear HB hb; have HB := n0_; clear n0_))
  go_ret2
  exact ⟨⟨A, c, rfl⟩, HB.out⟩
set_option maxHeartbeats 1000000 in
set_option maxRecDepth 100000 in
theorem c135b (id : Int) (sp : Value) (pt : Int) (w : World) (hL : Lang.Laid w) : Calls Tryz.prog 135 #[.agg #[.int .i64 id, .string ⟨#[98]⟩, .int .i64 1, .int .i64 0, .int .i64 0, sp, .int .i64 pt]] w fun e w' => e = .returned (.tuple #[.slice none 0 0, .int .i64 7]) ∧ Below w.heap.size w w' := by
  go_enter Tryz.func135, Tryz.ntmps135
  go_upto_region 1 with (fail)
  have HK := Aside0.mk (heap_alloc_new w (.cells #[.int .i64 id, .string ⟨#[98]⟩, .int .i64 1, .int .i64 0, .int .i64 0, sp, .int .i64 pt] 63))
  have HB := Aside0.mk (below_alloc (Below.refl w.heap.size w) (.cells #[.int .i64 id, .string ⟨#[98]⟩, .int .i64 1, .int .i64 0, .int .i64 0, sp, .int .i64 pt] 63))
  generalize w.alloc (.cells #[.int .i64 id, .string ⟨#[98]⟩, .int .i64 1, .int .i64 0, .int .i64 0, sp, .int .i64 pt] 63) = W at HK HB ⊢
  obtain ⟨b, hb⟩ : ∃ b, b = w.heap.size := ⟨_, rfl⟩
  replace HK : Aside0 (W.heap[b]? = _) := ⟨hb ▸ HK.out⟩
  rw [← hb]
  clear hb
  obtain ⟨m0, m1, m2, m3, m4, m5, m6, -⟩ := PJobBytes.blkall_7 HK.out
  go_wp2_with (first
    | (go_at_call 158; refine (c158b _ (hL.below HB.out)).mono ?_; rintro e w1 ⟨rfl, hb⟩; have HK3 := Aside0.mk ((hb.block _ (lt_blk HK.out)).trans HK.out); clear HK m0 m1 m2 m3 m4 m5 m6; have HK := HK3; clear HK3; obtain ⟨m0, m1, m2, m3, m4, m5, m6, -⟩ := PJobBytes.blkall_7 HK.out; have n0_ := Aside0.mk (below_step (by repeat (first | (with_reducible first | exact HB.out | apply below_alloc | apply pw_below_drewN | apply below_drew1 | apply below_drew) | exact HB.out)) hb); clear HB hb; have HB := n0_; clear n0_))
  go_ret2
  exact ⟨rfl, HB.out⟩
set_option maxHeartbeats 1000000 in
set_option maxRecDepth 100000 in
theorem c125 (id : Int) (sp : Value) (pt : Int) (w : World) (hL : Lang.Laid w) : Calls Tryz.prog 125 #[.agg #[.int .i64 id, .string ⟨#[]⟩, .int .i64 1, .int .i64 0, .int .i64 0, sp, .int .i64 pt], .slice none 0 0] w fun e w' => e = .returned (.tuple #[.slice none 0 0, .int .i64 0]) ∧ Below w.heap.size w w' := by
  go_enter Tryz.func125, Tryz.ntmps125
  go_upto_region 1 with (fail)
  have HK := Aside0.mk (heap_alloc_new w (.cells #[.int .i64 id, .string ⟨#[]⟩, .int .i64 1, .int .i64 0, .int .i64 0, sp, .int .i64 pt] 63))
  have HB := Aside0.mk (below_alloc (Below.refl w.heap.size w) (.cells #[.int .i64 id, .string ⟨#[]⟩, .int .i64 1, .int .i64 0, .int .i64 0, sp, .int .i64 pt] 63))
  generalize w.alloc (.cells #[.int .i64 id, .string ⟨#[]⟩, .int .i64 1, .int .i64 0, .int .i64 0, sp, .int .i64 pt] 63) = W at HK HB ⊢
  obtain ⟨b, hb⟩ : ∃ b, b = w.heap.size := ⟨_, rfl⟩
  replace HK : Aside0 (W.heap[b]? = _) := ⟨hb ▸ HK.out⟩
  rw [← hb]
  clear hb
  obtain ⟨m0, m1, m2, m3, m4, m5, m6, -⟩ := PJobBytes.blkall_7 HK.out
  go_wp2_with (first
    | (go_at_call 135; refine (c135 id sp pt _ (hL.below HB.out)).mono ?_; rintro e w1 ⟨⟨A, c, rfl⟩, hb⟩; have HK3 := Aside0.mk ((hb.block _ (lt_blk HK.out)).trans HK.out); clear HK m0 m1 m2 m3 m4 m5 m6; have HK := HK3; clear HK3; obtain ⟨m0, m1, m2, m3, m4, m5, m6, -⟩ := PJobBytes.blkall_7 HK.out; have n0_ := Aside0.mk (below_step (by repeat (first | (with_reducible first | exact HB.out | apply below_alloc | apply pw_below_drewN | apply below_drew1 | apply below_drew) | exact HB.out)) hb); clear HB hb; have HB := n0_; clear n0_)
    | (go_at_call 60; refine (c60 id _ sp pt _).mono ?_; rintro e w1 ⟨rfl, hb⟩; have HK3 := Aside0.mk ((hb.block _ (lt_blk HK.out)).trans HK.out); clear HK m0 m1 m2 m3 m4 m5 m6; have HK := HK3; clear HK3; obtain ⟨m0, m1, m2, m3, m4, m5, m6, -⟩ := PJobBytes.blkall_7 HK.out; have n0_ := Aside0.mk (below_step (by repeat (first | (with_reducible first | exact HB.out | apply below_alloc | apply pw_below_drewN | apply below_drew1 | apply below_drew) | exact HB.out)) hb); clear HB hb; have HB := n0_; clear n0_)
    | (go_at_call 153; refine (c153 _).mono ?_; rintro e w1 ⟨rfl, hb⟩; have HK3 := Aside0.mk ((hb.block _ (lt_blk HK.out)).trans HK.out); clear HK m0 m1 m2 m3 m4 m5 m6; have HK := HK3; clear HK3; obtain ⟨m0, m1, m2, m3, m4, m5, m6, -⟩ := PJobBytes.blkall_7 HK.out; have n0_ := Aside0.mk (below_step (by repeat (first | (with_reducible first | exact HB.out | apply below_alloc | apply pw_below_drewN | apply below_drew1 | apply below_drew) | exact HB.out)) hb); clear HB hb; have HB := n0_; clear n0_))
  go_loopg [8, 32] 1 (fun kq v8 v32 w' => v8 = .slice none 0 0 ∧ v32 = .int .i64 0 ∧ Aside0 (kq = 1) ∧ Aside0 (Below w.heap.size w w'))
  case atStart => exact ⟨rfl, rfl, ⟨rfl⟩, HB⟩
  case round =>
    clear HB
    obtain ⟨rfl, rfl, HQ, HB⟩ := hrel
    cases gk with
    | zero => exact absurd HQ.out (by decide)
    | succ k1 =>
      clear HQ
      go_wp2
      go_ret2
      exact ⟨rfl, HB.out⟩
set_option maxHeartbeats 1000000 in
set_option maxRecDepth 100000 in
theorem c91 (id : Int) (sp : Value) (pt : Int) (w : World) (hL : Lang.Laid w) : Calls Tryz.prog 91 #[.agg #[.int .i64 id, .string ⟨#[]⟩, .int .i64 1, .int .i64 0, .int .i64 0, sp, .int .i64 pt], .slice none 0 0] w fun e w' => e = .returned (.tuple #[.slice none 0 0, .int .i64 0]) ∧ Below w.heap.size w w' := by
  go_enter Tryz.func91, Tryz.ntmps91
  go_upto_region 1 with (fail)
  have HK := Aside0.mk (heap_alloc_new w (.cells #[.int .i64 id, .string ⟨#[]⟩, .int .i64 1, .int .i64 0, .int .i64 0, sp, .int .i64 pt] 63))
  have HB := Aside0.mk (below_alloc (Below.refl w.heap.size w) (.cells #[.int .i64 id, .string ⟨#[]⟩, .int .i64 1, .int .i64 0, .int .i64 0, sp, .int .i64 pt] 63))
  generalize w.alloc (.cells #[.int .i64 id, .string ⟨#[]⟩, .int .i64 1, .int .i64 0, .int .i64 0, sp, .int .i64 pt] 63) = W at HK HB ⊢
  obtain ⟨b, hb⟩ : ∃ b, b = w.heap.size := ⟨_, rfl⟩
  replace HK : Aside0 (W.heap[b]? = _) := ⟨hb ▸ HK.out⟩
  rw [← hb]
  clear hb
  obtain ⟨m0, m1, m2, m3, m4, m5, m6, -⟩ := PJobBytes.blkall_7 HK.out
  go_wp2_with (first
    | (go_at_call 125; refine (c125 id sp pt _ (hL.below HB.out)).mono ?_; rintro e w1 ⟨rfl, hb⟩; have HK3 := Aside0.mk ((hb.block _ (lt_blk HK.out)).trans HK.out); clear HK m0 m1 m2 m3 m4 m5 m6; have HK := HK3; clear HK3; obtain ⟨m0, m1, m2, m3, m4, m5, m6, -⟩ := PJobBytes.blkall_7 HK.out; have n0_ := Aside0.mk (below_step (by repeat (first | (with_reducible first | exact HB.out | apply below_alloc | apply pw_below_drewN | apply below_drew1 | apply below_drew) | exact HB.out)) hb); clear HB hb; have HB := n0_; clear n0_)
    | (go_at_call 7; refine (c7 _).mono ?_; rintro e w1 ⟨rfl, hb⟩; have HK3 := Aside0.mk ((hb.block _ (lt_blk HK.out)).trans HK.out); clear HK m0 m1 m2 m3 m4 m5 m6; have HK := HK3; clear HK3; obtain ⟨m0, m1, m2, m3, m4, m5, m6, -⟩ := PJobBytes.blkall_7 HK.out; have n0_ := Aside0.mk (below_step (by repeat (first | (with_reducible first | exact HB.out | apply below_alloc | apply pw_below_drewN | apply below_drew1 | apply below_drew) | exact HB.out)) hb); clear HB hb; have HB := n0_; clear n0_)
    | (go_at_call 14; refine (c14 _).mono ?_; rintro e w1 ⟨rfl, hb⟩; have HK3 := Aside0.mk ((hb.block _ (lt_blk HK.out)).trans HK.out); clear HK m0 m1 m2 m3 m4 m5 m6; have HK := HK3; clear HK3; obtain ⟨m0, m1, m2, m3, m4, m5, m6, -⟩ := PJobBytes.blkall_7 HK.out; have n0_ := Aside0.mk (below_step (by repeat (first | (with_reducible first | exact HB.out | apply below_alloc | apply pw_below_drewN | apply below_drew1 | apply below_drew) | exact HB.out)) hb); clear HB hb; have HB := n0_; clear n0_))
  go_ret2
  exact ⟨rfl, HB.out⟩
set_option maxHeartbeats 1000000 in
set_option maxRecDepth 100000 in
theorem c47 (id : Int) (sp : Value) (pt : Int) (w : World) (hL : Lang.Laid w) : Calls Tryz.prog 47 #[.agg #[.int .i64 id, .string ⟨#[]⟩, .int .i64 1, .int .i64 0, .int .i64 0, sp, .int .i64 pt], .slice none 0 0] w fun e w' => e = .returned (.tuple #[.string fr0, .int .i64 0]) ∧ Below w.heap.size w w' := by
  go_enter Tryz.func47, Tryz.ntmps47
  go_upto_region 1 with (fail)
  have HK := Aside0.mk (heap_alloc_new w (.cells #[.int .i64 id, .string ⟨#[]⟩, .int .i64 1, .int .i64 0, .int .i64 0, sp, .int .i64 pt] 63))
  have HB := Aside0.mk (below_alloc (Below.refl w.heap.size w) (.cells #[.int .i64 id, .string ⟨#[]⟩, .int .i64 1, .int .i64 0, .int .i64 0, sp, .int .i64 pt] 63))
  generalize w.alloc (.cells #[.int .i64 id, .string ⟨#[]⟩, .int .i64 1, .int .i64 0, .int .i64 0, sp, .int .i64 pt] 63) = W at HK HB ⊢
  obtain ⟨b, hb⟩ : ∃ b, b = w.heap.size := ⟨_, rfl⟩
  replace HK : Aside0 (W.heap[b]? = _) := ⟨hb ▸ HK.out⟩
  rw [← hb]
  clear hb
  obtain ⟨m0, m1, m2, m3, m4, m5, m6, -⟩ := PJobBytes.blkall_7 HK.out
  have hs8 := fr_size
  go_wp2_with (first
    | (go_at_call 91; refine (c91 id sp pt _ (hL.below HB.out)).mono ?_; rintro e w1 ⟨rfl, hb⟩; have HK3 := Aside0.mk ((hb.block _ (lt_blk HK.out)).trans HK.out); clear HK m0 m1 m2 m3 m4 m5 m6; have HK := HK3; clear HK3; obtain ⟨m0, m1, m2, m3, m4, m5, m6, -⟩ := PJobBytes.blkall_7 HK.out; have n0_ := Aside0.mk (below_step (by repeat (first | (with_reducible first | exact HB.out | apply below_alloc | apply pw_below_drewN | apply below_drew1 | apply below_drew) | exact HB.out)) hb); clear HB hb; have HB := n0_; clear n0_)
    | (go_at_call 92; refine (c92 _).mono ?_; rintro e w1 ⟨rfl, hb⟩; have HK3 := Aside0.mk ((hb.block _ (lt_blk HK.out)).trans HK.out); clear HK m0 m1 m2 m3 m4 m5 m6; have HK := HK3; clear HK3; obtain ⟨m0, m1, m2, m3, m4, m5, m6, -⟩ := PJobBytes.blkall_7 HK.out; have n0_ := Aside0.mk (below_step (by repeat (first | (with_reducible first | exact HB.out | apply below_alloc | apply pw_below_drewN | apply below_drew1 | apply below_drew) | exact HB.out)) hb); clear HB hb; have HB := n0_; clear n0_)
    | (go_at_call 93; refine (c93 _).mono ?_; rintro e w1 ⟨rfl, hb⟩; have HK3 := Aside0.mk ((hb.block _ (lt_blk HK.out)).trans HK.out); clear HK m0 m1 m2 m3 m4 m5 m6; have HK := HK3; clear HK3; obtain ⟨m0, m1, m2, m3, m4, m5, m6, -⟩ := PJobBytes.blkall_7 HK.out; have n0_ := Aside0.mk (below_step (by repeat (first | (with_reducible first | exact HB.out | apply below_alloc | apply pw_below_drewN | apply below_drew1 | apply below_drew) | exact HB.out)) hb); clear HB hb; have HB := n0_; clear n0_))
  go_ret2
  exact ⟨rfl, HB.out⟩
end Go.Proofs.YtpepmmfhanaipaaGreatDoor.Wk
end
section
namespace Go.Proofs.YtpepmmfhanaipaaGreatDoor.Wk
open Go.RowKit Go.Shelf Go.Proofs.YtpepmmfhanaipaaGreatDoorW.PrintWords Go.Proofs.YtpepmmfhanaipaaGreatDoorW.PrintLast Go.Proofs.YtpepmmfhanaipaaGreatDoorW.PrintMore
set_option linter.unusedVariables false
set_option linter.unusedSimpArgs false
theorem addz (b j : Nat) : (⟨b, 0, none⟩ : Addr).add j = ⟨b, j, none⟩ := by unfold Addr.add; split <;> simp_all
theorem ints1 {w : World} {b : Nat} (h : w.heap[b]? = some (.cells #[.int .i64 1] 3 (0, 0))) : (Kd.int .i64).C w (some ⟨b, 0, none⟩) 1 [1] := by
  refine ⟨rfl, by decide, fun _ => ⟨⟨b, 0, none⟩, rfl, fun j p hj => ?_⟩⟩
  cases j with
  | succ j => simp at hj
  | zero =>
    simp at hj
    subst hj
    refine ⟨[.int .i64 1], rfl, rfl, fun i u hu => ?_⟩
    cases i with
    | succ i => simp at hu
    | zero =>
      simp at hu
      subst hu
      rw [addz]
      have := blk_cell h 0
      simpa using this
structure Cfg (w : World) (bs bi : Nat) : Prop where
  sp : w.heap[bs]? = some (.cells #[.int .i64 1, .string ⟨#[]⟩, .slice (some ⟨bi, 0, none⟩) 1 1] 123 (0, 0))
  si : w.heap[bi]? = some (.cells #[.int .i64 1] 3 (0, 0))
theorem Cfg.below {w w' : World} {bs bi : Nat} (h : Cfg w bs bi) (hb : Below w.heap.size w w') : Cfg w' bs bi := ⟨(hb.block _ (lt_blk h.sp)).trans h.sp, (hb.block _ (lt_blk h.si)).trans h.si⟩
theorem cfg_reads {w : World} {bs bi : Nat} (h : Cfg w bs bi) : Kd.C PAux.k123 w (some ⟨bs, 0, none⟩) 1 [⟨1, ⟨#[]⟩, [1]⟩] := by
  refine ⟨rfl, by decide, fun _ => ⟨⟨bs, 0, none⟩, rfl, fun j p hj => ?_⟩⟩
  cases j with
  | succ j => simp at hj
  | zero =>
    simp at hj
    subst hj
    refine ⟨_, rfl, PAux.k123_mk w ⟨1, ⟨#[]⟩, [1]⟩ (A2 := some ⟨bi, 0, none⟩) (c2 := 1) (by decide) (ints1 h.si), fun i u hu => ?_⟩
    rw [addz]
    have hc := blk_cell h.sp
    match i, hu with
    | 0, hu => simp at hu; subst hu; have := hc 0; simpa using this
    | 1, hu => simp at hu; subst hu; have := hc 1; simpa using this
    | 2, hu => simp at hu; subst hu; have := hc 2; simpa using this
    | i + 3, hu => simp at hu
theorem chk_eq : PAux.split_Check.f 100 1 [⟨1, ⟨#[]⟩, [1]⟩] 1 16 = some 0 := by kernel_rfl
theorem c103 (bs bi : Nat) (w : World) (hC : Cfg w bs bi) : Calls Tryz.prog 103 #[.agg #[.int .i64 1, .slice (some ⟨bs, 0, none⟩) 1 1, .int .i64 1, .int .i64 16]] w fun e w' => e = .returned (.int .i64 0) ∧ Below w.heap.size w w' :=
  PAux.split_Check.calls 100 1 (some ⟨bs, 0, none⟩) 1 [⟨1, ⟨#[]⟩, [1]⟩] 1 16 0 w (cfg_reads hC) (by decide) chk_eq
theorem jchk0 : PJobBytes.job_Check.f 100 1 ⟨#[]⟩ 1 0 0 [1] 1 = some 0 := by kernel_rfl
theorem jchkb : PJobBytes.job_Check.f 100 1 ⟨#[98]⟩ 1 0 0 [1] 1 = some 0 := by kernel_rfl
theorem c28 (p : ByteArray) (hp : PJobBytes.job_Check.f 100 1 p 1 0 0 [1] 1 = some 0) (bj : Nat) (w : World) (h : w.heap[bj]? = some (.cells #[.int .i64 1] 3 (0, 0))) : Calls Tryz.prog 28 #[.agg #[.int .i64 1, .string p, .int .i64 1, .int .i64 0, .int .i64 0, .slice (some ⟨bj, 0, none⟩) 1 1, .int .i64 1]] w fun e w' => e = .returned (.int .i64 0) ∧ Below w.heap.size w w' :=
  PJobBytes.job_Check.calls 100 1 p 1 0 0 (some ⟨bj, 0, none⟩) 1 [1] 1 0 w (ints1 h) (by decide) hp
set_option maxHeartbeats 1000000 in
set_option maxRecDepth 100000 in
theorem c160 (bi : Nat) (w : World) (h : w.heap[bi]? = some (.cells #[.int .i64 1] 3 (0, 0))) : Calls Tryz.prog 160 #[.agg #[.int .i64 1, .string ⟨#[]⟩, .slice (some ⟨bi, 0, none⟩) 1 1]] w fun e w' => (∃ A c, e = .returned (.agg #[.int .i64 1, .string ⟨#[]⟩, .slice A 1 c])) ∧ Below w.heap.size w w' := by
  have H := Aside0.mk h
  clear h
  go_enter Tryz.func160, Tryz.ntmps160
  go_upto_region 1 with (fail)
  have H1 : Aside0 (((w.alloc (.cells #[.int .i64 1, .string ⟨#[]⟩, .slice (some ⟨bi, 0, none⟩) 1 1] 123)).alloc (.cells #[.int .i64 0, .string ⟨#[]⟩, .slice none 0 0] 123)).heap[w.heap.size]? = some (.cells #[.int .i64 1, .string ⟨#[]⟩, .slice (some ⟨bi, 0, none⟩) 1 1] 123 (0, 0))) := ⟨blk_alloc (heap_alloc_new w _) _⟩
  have H2 : Aside0 (((w.alloc (.cells #[.int .i64 1, .string ⟨#[]⟩, .slice (some ⟨bi, 0, none⟩) 1 1] 123)).alloc (.cells #[.int .i64 0, .string ⟨#[]⟩, .slice none 0 0] 123)).heap[w.heap.size + 1]? = some (.cells #[.int .i64 0, .string ⟨#[]⟩, .slice none 0 0] 123 (0, 0))) := ⟨by
    have := heap_alloc_new (w.alloc (.cells #[.int .i64 1, .string ⟨#[]⟩, .slice (some ⟨bi, 0, none⟩) 1 1] 123)) (.cells #[.int .i64 0, .string ⟨#[]⟩, .slice none 0 0] 123)
    simpa using this⟩
  have H3 : Aside0 (((w.alloc (.cells #[.int .i64 1, .string ⟨#[]⟩, .slice (some ⟨bi, 0, none⟩) 1 1] 123)).alloc (.cells #[.int .i64 0, .string ⟨#[]⟩, .slice none 0 0] 123)).heap[bi]? = some (.cells #[.int .i64 1] 3 (0, 0))) := ⟨blk_alloc (blk_alloc H.out _) _⟩
  have HB : Aside0 (Below w.heap.size w ((w.alloc (.cells #[.int .i64 1, .string ⟨#[]⟩, .slice (some ⟨bi, 0, none⟩) 1 1] 123)).alloc (.cells #[.int .i64 0, .string ⟨#[]⟩, .slice none 0 0] 123))) := ⟨below_alloc (below_alloc (Below.refl _ _) _) _⟩
  generalize (w.alloc (.cells #[.int .i64 1, .string ⟨#[]⟩, .slice (some ⟨bi, 0, none⟩) 1 1] 123)).alloc (.cells #[.int .i64 0, .string ⟨#[]⟩, .slice none 0 0] 123) = W at H1 H2 H3 HB ⊢
  have HG1 : Aside0 (w.heap.size ≤ w.heap.size) := ⟨Nat.le_refl _⟩
  have HG2 : Aside0 (w.heap.size ≤ w.heap.size + 1) := ⟨Nat.le_succ _⟩
  have HN : Aside0 (w.heap.size ≠ w.heap.size + 1) := ⟨by omega⟩
  obtain ⟨b2, e2⟩ : ∃ b, b = w.heap.size + 1 := ⟨_, rfl⟩
  rw [← e2] at H2 HG2 HN ⊢
  clear e2
  obtain ⟨b1, e1⟩ : ∃ b, b = w.heap.size := ⟨_, rfl⟩
  replace H1 : Aside0 (W.heap[b1]? = _) := ⟨e1 ▸ H1.out⟩
  replace HG1 : Aside0 (w.heap.size ≤ b1) := ⟨Nat.le_of_eq e1.symm⟩
  replace HN : Aside0 (b1 ≠ b2) := ⟨e1 ▸ HN.out⟩
  rw [← e1]
  clear e1
  have k2 := blk_cell H1.out 2
  simp at k2
  have HC := Aside0.mk (Tryz.slices_Clone_int bi 0 1 1 [1] W (by decide) (by decide) (fun j hj => by
    have hj0 : j = 0 := by simp at hj; omega
    subst hj0
    have := blk_cell H3.out 0
    simpa using this))
  go_upto_region 2 with (first | (go_at_call 176; refine HC.out.mono ?_; rintro e w1 ⟨v1, rfl, ho, -, hb⟩; obtain ⟨A, c, rfl⟩ := PJobBytes.tk_slice ho; have H1b := Aside0.mk ((hb.block _ (lt_blk H1.out)).trans H1.out); have H2b := Aside0.mk ((hb.block _ (lt_blk H2.out)).trans H2.out); have HB2 := Aside0.mk (below_step HB.out hb); clear ho hb k2; obtain ⟨k0, k1, k2⟩ := And.intro (blk_cell H1b.out 0) (And.intro (blk_cell H1b.out 1) (blk_cell H1b.out 2)); have f2 := blk_frozen H1b.out 2; simp at k0 k1 k2))
  have H1c := Aside0.mk (blk_set H1b.out 2 (.slice A 1 c))
  have H2c := Aside0.mk ((Below.heap_setCell w1 ⟨b1, 2, none⟩ (.slice A 1 c) b2 (fun e => HN.out e.symm)).trans H2b.out)
  have HB3 := Aside0.mk (HB2.out.setCell (p := ⟨b1, 2, none⟩) HG1.out (.slice A 1 c))
  clear k0 k1 k2 f2
  generalize w1.setCell ⟨b1, 2, none⟩ (.slice A 1 c) = W2 at H1c H2c HB3 ⊢
  obtain ⟨k0, k1, k2⟩ := And.intro (blk_cell H1c.out 0) (And.intro (blk_cell H1c.out 1) (blk_cell H1c.out 2))
  obtain ⟨m0, m1, m2⟩ := And.intro (blk_cell H2c.out 0) (And.intro (blk_cell H2c.out 1) (blk_cell H2c.out 2))
  obtain ⟨f0, f1, f2⟩ := And.intro (blk_frozen H2c.out 0) (And.intro (blk_frozen H2c.out 1) (blk_frozen H2c.out 2))
  simp at k0 k1 k2 m0 m1 m2
  go_wp2
  have q := blk_set (blk_set (blk_set H2c.out 0 (.int .i64 1)) 1 (.string ⟨#[]⟩)) 2 (.slice A 1 c)
  have qB := ((HB3.out.setCell (p := ⟨b2, 0, none⟩) HG2.out (.int .i64 1)).setCell (p := ⟨b2, 1, none⟩) HG2.out (.string ⟨#[]⟩)).setCell (p := ⟨b2, 2, none⟩) HG2.out (.slice A 1 c)
  (try simp only [Exit.inBlock, Exit.then])
  refine bodyPost_ret (v := .agg #[.int .i64 1, .string ⟨#[]⟩, .slice A 1 c]) (by exact results_cell_row (fn := Tryz.f160) (p := 2) rfl _ _ _ _ _ _ _ rfl q Tryz.underlying123 rfl (by kernel_rfl)) rfl ⟨⟨A, c, rfl⟩, qB⟩
end Go.Proofs.YtpepmmfhanaipaaGreatDoor.Wk
end
section
namespace Go.Proofs.YtpepmmfhanaipaaGreatDoor.Wk
open Go.RowKit Go.Shelf Go.Proofs.YtpepmmfhanaipaaGreatDoorW.PrintWords Go.Proofs.YtpepmmfhanaipaaGreatDoorW.PrintLast Go.Proofs.YtpepmmfhanaipaaGreatDoorW.PrintMore
set_option linter.unusedVariables false
set_option linter.unusedSimpArgs false
set_option maxHeartbeats 1000000 in
set_option maxRecDepth 100000 in
theorem c136 (bs bi : Nat) (w : World) (hC : Cfg w bs bi) : Calls Tryz.prog 136 #[.agg #[.int .i64 1, .slice (some ⟨bs, 0, none⟩) 1 1, .int .i64 1, .int .i64 16], .int .i64 1] w fun e w' => (∃ A c, e = .returned (.tuple #[.agg #[.int .i64 1, .string ⟨#[]⟩, .slice A 1 c], .bool true])) ∧ Below w.heap.size w w' := by
  have HC := Aside0.mk hC
  clear hC
  go_enter Tryz.func136, Tryz.ntmps136
  go_upto_region 1 with (fail)
  have H1 : Aside0 (((w.alloc (.cells #[.int .i64 1, .slice (some ⟨bs, 0, none⟩) 1 1, .int .i64 1, .int .i64 16] 51)).alloc (.cells #[.int .i64 0, .string ⟨#[]⟩, .slice none 0 0] 123)).heap[w.heap.size]? = some (.cells #[.int .i64 1, .slice (some ⟨bs, 0, none⟩) 1 1, .int .i64 1, .int .i64 16] 51 (0, 0))) := ⟨blk_alloc (heap_alloc_new w _) _⟩
  have H2 : Aside0 (((w.alloc (.cells #[.int .i64 1, .slice (some ⟨bs, 0, none⟩) 1 1, .int .i64 1, .int .i64 16] 51)).alloc (.cells #[.int .i64 0, .string ⟨#[]⟩, .slice none 0 0] 123)).heap[w.heap.size + 1]? = some (.cells #[.int .i64 0, .string ⟨#[]⟩, .slice none 0 0] 123 (0, 0))) := ⟨by
    have := heap_alloc_new (w.alloc (.cells #[.int .i64 1, .slice (some ⟨bs, 0, none⟩) 1 1, .int .i64 1, .int .i64 16] 51)) (.cells #[.int .i64 0, .string ⟨#[]⟩, .slice none 0 0] 123)
    simpa using this⟩
  have HB : Aside0 (Below w.heap.size w ((w.alloc (.cells #[.int .i64 1, .slice (some ⟨bs, 0, none⟩) 1 1, .int .i64 1, .int .i64 16] 51)).alloc (.cells #[.int .i64 0, .string ⟨#[]⟩, .slice none 0 0] 123))) := ⟨below_alloc (below_alloc (Below.refl _ _) _) _⟩
  have HC2 : Aside0 (Cfg ((w.alloc (.cells #[.int .i64 1, .slice (some ⟨bs, 0, none⟩) 1 1, .int .i64 1, .int .i64 16] 51)).alloc (.cells #[.int .i64 0, .string ⟨#[]⟩, .slice none 0 0] 123)) bs bi) := ⟨HC.out.below HB.out⟩
  generalize (w.alloc (.cells #[.int .i64 1, .slice (some ⟨bs, 0, none⟩) 1 1, .int .i64 1, .int .i64 16] 51)).alloc (.cells #[.int .i64 0, .string ⟨#[]⟩, .slice none 0 0] 123) = W at H1 H2 HB HC2 ⊢
  clear HC
  have HG : Aside0 (w.heap.size ≤ w.heap.size + 1) := ⟨Nat.le_succ _⟩
  obtain ⟨b4, e2⟩ : ∃ b, b = w.heap.size + 1 := ⟨_, rfl⟩
  rw [← e2] at H2 HG ⊢
  clear e2
  obtain ⟨b2, e1⟩ : ∃ b, b = w.heap.size := ⟨_, rfl⟩
  replace H1 : Aside0 (W.heap[b2]? = _) := ⟨e1 ▸ H1.out⟩
  rw [← e1]
  clear e1
  have k1 := blk_cell H1.out 1
  simp at k1
  go_wp2
  go_loopg [11] 1 (fun kq v11 w' => v11 = .int .i64 0 ∧ Aside0 (kq = 1) ∧ w' = W)
  case atStart => exact ⟨rfl, ⟨rfl⟩, rfl⟩
  case round =>
    obtain ⟨rfl, HQ, rfl⟩ := hrel
    cases gk with
    | zero => exact absurd HQ.out (by decide)
    | succ q1 =>
      clear HQ k1
      obtain ⟨s0, s1, s2⟩ := And.intro (blk_cell HC2.out.sp 0) (And.intro (blk_cell HC2.out.sp 1) (blk_cell HC2.out.sp 2))
      simp at s0 s1 s2
      go_upto_region 4 with (fail)
      have H7 := Aside0.mk (heap_alloc_new wr (.cells #[.int .i64 1, .string ⟨#[]⟩, .slice (some ⟨bi, 0, none⟩) 1 1] 123))
      have H3 := Aside0.mk (blk_alloc H2.out (.cells #[.int .i64 1, .string ⟨#[]⟩, .slice (some ⟨bi, 0, none⟩) 1 1] 123))
      have HS := Aside0.mk (blk_alloc HC2.out.si (.cells #[.int .i64 1, .string ⟨#[]⟩, .slice (some ⟨bi, 0, none⟩) 1 1] 123))
      have HB3 := Aside0.mk (below_alloc HB.out (.cells #[.int .i64 1, .string ⟨#[]⟩, .slice (some ⟨bi, 0, none⟩) 1 1] 123))
      clear s0 s1 s2
      generalize wr.alloc (.cells #[.int .i64 1, .string ⟨#[]⟩, .slice (some ⟨bi, 0, none⟩) 1 1] 123) = W7 at H7 H3 HS HB3 ⊢
      generalize wr.heap.size = b7 at H7 ⊢
      obtain ⟨s0, s1, s2⟩ := And.intro (blk_cell H7.out 0) (And.intro (blk_cell H7.out 1) (blk_cell H7.out 2))
      simp at s0 s1 s2
      go_wp2_with (first | (go_at_call 160; refine (c160 bi _ HS.out).mono ?_; rintro e w1 ⟨⟨A, c, rfl⟩, hb⟩; have H4 := Aside0.mk ((hb.block _ (lt_blk H3.out)).trans H3.out); have HB4 := Aside0.mk (below_step HB3.out hb); clear hb s0 s1 s2; obtain ⟨m0, m1, m2⟩ := And.intro (blk_cell H4.out 0) (And.intro (blk_cell H4.out 1) (blk_cell H4.out 2)); obtain ⟨f0, f1, f2⟩ := And.intro (blk_frozen H4.out 0) (And.intro (blk_frozen H4.out 1) (blk_frozen H4.out 2)); simp at m0 m1 m2))
      have q := blk_set (blk_set (blk_set H4.out 0 (.int .i64 1)) 1 (.string ⟨#[]⟩)) 2 (.slice A 1 c)
      have qB := ((HB4.out.setCell (p := ⟨b4, 0, none⟩) HG.out (.int .i64 1)).setCell (p := ⟨b4, 1, none⟩) HG.out (.string ⟨#[]⟩)).setCell (p := ⟨b4, 2, none⟩) HG.out (.slice A 1 c)
      (try simp only [Exit.inBlock, Exit.then])
      refine bodyPost_ret (v := .tuple #[.agg #[.int .i64 1, .string ⟨#[]⟩, .slice A 1 c], .bool true]) (by exact ret123 (fn := Tryz.f136) (p := 4) (u := 5) rfl rfl q rfl) rfl ⟨⟨A, c, rfl⟩, qB⟩
set_option maxHeartbeats 1000000 in
set_option maxRecDepth 100000 in
theorem c137 (bs bi : Nat) (w : World) (hC : Cfg w bs bi) : Calls Tryz.prog 137 #[.agg #[.int .i64 1, .slice (some ⟨bs, 0, none⟩) 1 1, .int .i64 1, .int .i64 16], .int .i64 1] w fun e w' => e = .returned (.slice none 0 0) ∧ Below w.heap.size w w' := by
  have HC := Aside0.mk hC
  clear hC
  have HB := Aside0.mk (Below.refl w.heap.size w)
  go_enter Tryz.func137, Tryz.ntmps137
  go_wp2_with (first
    | (go_at_call 136; refine (c136 bs bi _ (HC.out.below (below_alloc (Below.refl _ _) _))).mono ?_; rintro e w1 ⟨⟨A, c, rfl⟩, hb⟩; have n0_ := Aside0.mk (below_step (by repeat (first | (with_reducible first | exact HB.out | apply below_alloc | apply pw_below_drewN | apply below_drew1 | apply below_drew) | exact HB.out)) hb); clear HB hb; have HB := n0_; clear n0_)
    | (go_at_call 157; refine (c157 _).mono ?_; rintro e w2 ⟨rfl, hb⟩; have n0_ := Aside0.mk (below_step (by repeat (first | (with_reducible first | exact HB.out | apply below_alloc | apply pw_below_drewN | apply below_drew1 | apply below_drew) | exact HB.out)) hb); clear HB hb; have HB := n0_; clear n0_))
  go_ret
  exact ⟨rfl, (by repeat (first | (with_reducible first | exact HB.out | apply below_alloc | apply pw_below_drewN | apply below_drew1 | apply below_drew) | exact HB.out))⟩
end Go.Proofs.YtpepmmfhanaipaaGreatDoor.Wk
end
