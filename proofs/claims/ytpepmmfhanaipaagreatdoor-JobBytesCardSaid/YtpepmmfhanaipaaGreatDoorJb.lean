-- Put together by mergex.py out of this workplace's texts.
import Derived.Test.YtpepmmfhanaipaaGreatDoorJPJobBytesx1
import Derived.Test.YtpepmmfhanaipaaGreatDoorJPAuxx0
import Derived.Shelf.Abstract
import Derived.Shelf.Slices.Clone
import Derived.Lib.BufferRead
import Derived.RangeFuncNested
import Derived.RangeFuncBound
import Derived.RangeFuncCalls
import Derived.RangeFuncLeaves
import Derived.Shelf.RegionOpen
import Derived.WalkKit
import Derived.OwnWalkIn
import Derived.TacticsInMore
import Derived.LoopNIn
import Derived.LoopIn
section
namespace Go.Proofs.YtpepmmfhanaipaaGreatDoor.Wk
open Go.RowKit Go.Shelf Go.Proofs.YtpepmmfhanaipaaGreatDoorW.PrintWords Go.Proofs.YtpepmmfhanaipaaGreatDoorW.PrintLast Go.Proofs.YtpepmmfhanaipaaGreatDoorW.PrintMore
set_option linter.unusedVariables false
set_option linter.unusedSimpArgs false
set_option maxHeartbeats 1000000 in
set_option maxRecDepth 100000 in
theorem c108 (fv : Value) (w : World) : Calls Tryz.prog 108 #[.slice none 0 0, fv] w fun e w' => e = .returned (.int .i64 (-1)) ∧ Below w.heap.size w w' := by
  have HB := Aside0.mk (Below.refl w.heap.size w)
  go_enter Tryz.func108, Tryz.ntmps108
  go_wp2
  go_loopg [8] 1 (fun kq v8 w' => v8 = .int .i64 0 ∧ Aside0 (kq = 1) ∧ Aside0 (Below w.heap.size w w'))
  case atStart => exact ⟨rfl, ⟨rfl⟩, ⟨(by repeat (first | (with_reducible first | exact HB.out | apply below_alloc | apply pw_below_drewN | apply below_drew1 | apply below_drew) | exact HB.out))⟩⟩
  case round =>
    clear HB
    obtain ⟨rfl, HK, HB⟩ := hrel
    cases gk with
    | zero => exact absurd HK.out (by decide)
    | succ k1 =>
      clear HK
      go_wp2
      go_ret
      exact ⟨rfl, (by repeat (first | (with_reducible first | exact HB.out | apply below_alloc | apply pw_below_drewN | apply below_drew1 | apply below_drew) | exact HB.out))⟩
set_option maxHeartbeats 1000000 in
set_option maxRecDepth 100000 in
theorem c146 (fv : Value) (w : World) : Calls Tryz.prog 146 #[.slice none 0 0, fv] w fun e w' => e = .returned (.int .i64 (-1)) ∧ Below w.heap.size w w' := by
  have HB := Aside0.mk (Below.refl w.heap.size w)
  go_enter Tryz.func146, Tryz.ntmps146
  go_wp2
  go_loopg [8] 1 (fun kq v8 w' => v8 = .int .i64 0 ∧ Aside0 (kq = 1) ∧ Aside0 (Below w.heap.size w w'))
  case atStart => exact ⟨rfl, ⟨rfl⟩, ⟨(by repeat (first | (with_reducible first | exact HB.out | apply below_alloc | apply pw_below_drewN | apply below_drew1 | apply below_drew) | exact HB.out))⟩⟩
  case round =>
    clear HB
    obtain ⟨rfl, HK, HB⟩ := hrel
    cases gk with
    | zero => exact absurd HK.out (by decide)
    | succ k1 =>
      clear HK
      go_wp2
      go_ret
      exact ⟨rfl, (by repeat (first | (with_reducible first | exact HB.out | apply below_alloc | apply pw_below_drewN | apply below_drew1 | apply below_drew) | exact HB.out))⟩
set_option maxHeartbeats 1000000 in
set_option maxRecDepth 100000 in
theorem c112 (fv : Value) (w : World) : Calls Tryz.prog 112 #[.slice none 0 0, fv] w fun e w' => e = .returned (.int .i64 (-1)) ∧ Below w.heap.size w w' := by
  have HB := Aside0.mk (Below.refl w.heap.size w)
  go_enter Tryz.func112, Tryz.ntmps112
  go_wp2
  go_loopg [8] 1 (fun kq v8 w' => v8 = .int .i64 0 ∧ Aside0 (kq = 1) ∧ Aside0 (Below w.heap.size w w'))
  case atStart => exact ⟨rfl, ⟨rfl⟩, ⟨(by repeat (first | (with_reducible first | exact HB.out | apply below_alloc | apply pw_below_drewN | apply below_drew1 | apply below_drew) | exact HB.out))⟩⟩
  case round =>
    clear HB
    obtain ⟨rfl, HK, HB⟩ := hrel
    cases gk with
    | zero => exact absurd HK.out (by decide)
    | succ k1 =>
      clear HK
      go_wp2
      go_ret
      exact ⟨rfl, (by repeat (first | (with_reducible first | exact HB.out | apply below_alloc | apply pw_below_drewN | apply below_drew1 | apply below_drew) | exact HB.out))⟩
set_option maxHeartbeats 1000000 in
set_option maxRecDepth 100000 in
theorem c72 (fv : Value) (w : World) : Calls Tryz.prog 72 #[.slice none 0 0, fv] w fun e w' => e = .returned (.bool false) ∧ Below w.heap.size w w' := by
  have HB := Aside0.mk (Below.refl w.heap.size w)
  go_enter Tryz.func72, Tryz.ntmps72
  go_wp2_with (first | (go_at_call 108; refine (c108 fv _).mono ?_; rintro e w1 ⟨rfl, hb⟩; have n0_ := Aside0.mk (below_step (by repeat (first | (with_reducible first | exact HB.out | apply below_alloc | apply pw_below_drewN | apply below_drew1 | apply below_drew) | exact HB.out)) hb); clear HB hb; have HB := n0_; clear n0_))
  go_ret
  exact ⟨rfl, (by repeat (first | (with_reducible first | exact HB.out | apply below_alloc | apply pw_below_drewN | apply below_drew1 | apply below_drew) | exact HB.out))⟩
set_option maxHeartbeats 1000000 in
set_option maxRecDepth 100000 in
theorem c116 (fv : Value) (w : World) : Calls Tryz.prog 116 #[.slice none 0 0, fv] w fun e w' => e = .returned (.bool false) ∧ Below w.heap.size w w' := by
  have HB := Aside0.mk (Below.refl w.heap.size w)
  go_enter Tryz.func116, Tryz.ntmps116
  go_wp2_with (first | (go_at_call 146; refine (c146 fv _).mono ?_; rintro e w1 ⟨rfl, hb⟩; have n0_ := Aside0.mk (below_step (by repeat (first | (with_reducible first | exact HB.out | apply below_alloc | apply pw_below_drewN | apply below_drew1 | apply below_drew) | exact HB.out)) hb); clear HB hb; have HB := n0_; clear n0_))
  go_ret
  exact ⟨rfl, (by repeat (first | (with_reducible first | exact HB.out | apply below_alloc | apply pw_below_drewN | apply below_drew1 | apply below_drew) | exact HB.out))⟩
set_option maxHeartbeats 1000000 in
set_option maxRecDepth 100000 in
theorem c79 (fv : Value) (w : World) : Calls Tryz.prog 79 #[.slice none 0 0, fv] w fun e w' => e = .returned (.bool false) ∧ Below w.heap.size w w' := by
  have HB := Aside0.mk (Below.refl w.heap.size w)
  go_enter Tryz.func79, Tryz.ntmps79
  go_wp2_with (first | (go_at_call 112; refine (c112 fv _).mono ?_; rintro e w1 ⟨rfl, hb⟩; have n0_ := Aside0.mk (below_step (by repeat (first | (with_reducible first | exact HB.out | apply below_alloc | apply pw_below_drewN | apply below_drew1 | apply below_drew) | exact HB.out)) hb); clear HB hb; have HB := n0_; clear n0_))
  go_ret
  exact ⟨rfl, (by repeat (first | (with_reducible first | exact HB.out | apply below_alloc | apply pw_below_drewN | apply below_drew1 | apply below_drew) | exact HB.out))⟩
set_option maxHeartbeats 1000000 in
set_option maxRecDepth 100000 in
theorem c216 (w : World) : Calls Tryz.prog 216 #[.slice none 0 0] w fun e w' => e = .returned (.slice none 0 0) ∧ Below w.heap.size w w' := by
  have HB := Aside0.mk (Below.refl w.heap.size w)
  have q := fun (w : World) (a : Option Addr) (n c n' c' : Nat) => Lib.run_eql_slice_nil (P := Tryz.prog) w 37 _ a n c n' c' Tryz.underlying37
  go_enter Tryz.func216, Tryz.ntmps216
  go_wp2
  go_ret
  exact ⟨rfl, (by repeat (first | (with_reducible first | exact HB.out | apply below_alloc | apply pw_below_drewN | apply below_drew1 | apply below_drew) | exact HB.out))⟩
set_option maxHeartbeats 1000000 in
set_option maxRecDepth 100000 in
theorem c40 (w : World) : Calls Tryz.prog 40 #[.slice none 0 0] w fun e w' => e = .returned (.slice none 0 0) ∧ Below w.heap.size w w' := by
  have HB := Aside0.mk (Below.refl w.heap.size w)
  have q := fun (w : World) (a : Option Addr) (n c n' c' : Nat) => Lib.run_eql_slice_nil (P := Tryz.prog) w 22 _ a n c n' c' Tryz.underlying22
  go_enter Tryz.func40, Tryz.ntmps40
  go_wp2
  go_ret
  exact ⟨rfl, (by repeat (first | (with_reducible first | exact HB.out | apply below_alloc | apply pw_below_drewN | apply below_drew1 | apply below_drew) | exact HB.out))⟩
set_option maxHeartbeats 1000000 in
set_option maxRecDepth 100000 in
theorem c115 (w : World) : Calls Tryz.prog 115 #[.slice none 0 0] w fun e w' => e = .returned (.bool true) ∧ Below w.heap.size w w' := by
  have HB := Aside0.mk (Below.refl w.heap.size w)
  go_enter Tryz.func115, Tryz.ntmps115
  go_wp2
  go_loopg [7] 1 (fun kq v7 w' => v7 = .int .i64 0 ∧ Aside0 (kq = 1) ∧ Aside0 (Below w.heap.size w w'))
  case atStart => exact ⟨rfl, ⟨rfl⟩, ⟨(by repeat (first | (with_reducible first | exact HB.out | apply below_alloc | apply pw_below_drewN | apply below_drew1 | apply below_drew) | exact HB.out))⟩⟩
  case round =>
    clear HB
    obtain ⟨rfl, HK, HB⟩ := hrel
    cases gk with
    | zero => exact absurd HK.out (by decide)
    | succ k1 =>
      clear HK
      go_wp2
      go_ret
      exact ⟨rfl, (by repeat (first | (with_reducible first | exact HB.out | apply below_alloc | apply pw_below_drewN | apply below_drew1 | apply below_drew) | exact HB.out))⟩
set_option maxHeartbeats 1000000 in
set_option maxRecDepth 100000 in
theorem c178 (w : World) : Calls Tryz.prog 178 #[.slice none 0 0] w fun e w' => e = .returned (.slice none 0 0) ∧ Below w.heap.size w w' := by
  have HB := Aside0.mk (Below.refl w.heap.size w)
  go_enter Tryz.func178, Tryz.ntmps178
  go_wp2_with (first | (go_at_call 216; refine (c216 _).mono ?_; rintro e w1 ⟨rfl, hb⟩; have n0_ := Aside0.mk (below_step (by repeat (first | (with_reducible first | exact HB.out | apply below_alloc | apply pw_below_drewN | apply below_drew1 | apply below_drew) | exact HB.out)) hb); clear HB hb; have HB := n0_; clear n0_))
  go_loopg [10] 1 (fun kq v10 w' => v10 = .int .i64 0 ∧ Aside0 (kq = 1) ∧ Aside0 (Below w.heap.size w w'))
  case atStart => exact ⟨rfl, ⟨rfl⟩, ⟨(by repeat (first | (with_reducible first | exact HB.out | apply below_alloc | apply pw_below_drewN | apply below_drew1 | apply below_drew) | exact HB.out))⟩⟩
  case round =>
    clear HB
    obtain ⟨rfl, HK, HB⟩ := hrel
    cases gk with
    | zero => exact absurd HK.out (by decide)
    | succ k1 =>
      clear HK
      go_wp2
      go_ret
      exact ⟨rfl, (by repeat (first | (with_reducible first | exact HB.out | apply below_alloc | apply pw_below_drewN | apply below_drew1 | apply below_drew) | exact HB.out))⟩
set_option maxHeartbeats 1000000 in
set_option maxRecDepth 100000 in
theorem c153 (w : World) : Calls Tryz.prog 153 #[.slice none 0 0] w fun e w' => e = .returned (.bool true) ∧ Below w.heap.size w w' := by
  have HB := Aside0.mk (Below.refl w.heap.size w)
  go_enter Tryz.func153, Tryz.ntmps153
  go_wp2_with (first | (go_at_call 72; refine (c72 _ _).mono ?_; rintro e w1 ⟨rfl, hb⟩; have n0_ := Aside0.mk (below_step (by repeat (first | (with_reducible first | exact HB.out | apply below_alloc | apply pw_below_drewN | apply below_drew1 | apply below_drew) | exact HB.out)) hb); clear HB hb; have HB := n0_; clear n0_))
  go_ret
  exact ⟨rfl, (by repeat (first | (with_reducible first | exact HB.out | apply below_alloc | apply pw_below_drewN | apply below_drew1 | apply below_drew) | exact HB.out))⟩
set_option maxHeartbeats 1000000 in
set_option maxRecDepth 100000 in
theorem c35 (w : World) : Calls Tryz.prog 35 #[.int .i64 1, .int .i64 0, .slice none 0 0] w fun e w' => e = .returned (.bool true) ∧ Below w.heap.size w w' := by
  have HB := Aside0.mk (Below.refl w.heap.size w)
  go_enter Tryz.func35, Tryz.ntmps35
  go_wp2_with (first | (go_at_call 71; refine (PJobBytes.cell_May.calls 1 0 true _ rfl).mono ?_; rintro e w1 ⟨rfl, ⟨nd_, rfl⟩⟩) | (go_at_call 72; refine (c72 _ _).mono ?_; rintro e w1 ⟨rfl, hb⟩; have n0_ := Aside0.mk (below_step (by repeat (first | (with_reducible first | exact HB.out | apply below_alloc | apply pw_below_drewN | apply below_drew1 | apply below_drew) | exact HB.out)) hb); clear HB hb; have HB := n0_; clear n0_))
  go_ret
  exact ⟨rfl, (by repeat (first | (with_reducible first | exact HB.out | apply below_alloc | apply pw_below_drewN | apply below_drew1 | apply below_drew) | exact HB.out))⟩
set_option maxHeartbeats 1000000 in
set_option maxRecDepth 100000 in
theorem c81 (w : World) : Calls Tryz.prog 81 #[.int .i64 1, .int .i64 0, .slice none 0 0] w fun e w' => e = .returned (.int .i64 0) ∧ Below w.heap.size w w' := by
  have HB := Aside0.mk (Below.refl w.heap.size w)
  go_enter Tryz.func81, Tryz.ntmps81
  go_wp2_with (first | (go_at_call 71; refine (PJobBytes.cell_May.calls 1 0 true _ rfl).mono ?_; rintro e w1 ⟨rfl, ⟨nd_, rfl⟩⟩) | (go_at_call 115; refine (c115 _).mono ?_; rintro e w1 ⟨rfl, hb⟩; have n0_ := Aside0.mk (below_step (by repeat (first | (with_reducible first | exact HB.out | apply below_alloc | apply pw_below_drewN | apply below_drew1 | apply below_drew) | exact HB.out)) hb); clear HB hb; have HB := n0_; clear n0_) | (go_at_call 116; refine (c116 _ _).mono ?_; rintro e w1 ⟨rfl, hb⟩; have n0_ := Aside0.mk (below_step (by repeat (first | (with_reducible first | exact HB.out | apply below_alloc | apply pw_below_drewN | apply below_drew1 | apply below_drew) | exact HB.out)) hb); clear HB hb; have HB := n0_; clear n0_))
  go_ret
  exact ⟨rfl, (by repeat (first | (with_reducible first | exact HB.out | apply below_alloc | apply pw_below_drewN | apply below_drew1 | apply below_drew) | exact HB.out))⟩
set_option maxHeartbeats 1000000 in
set_option maxRecDepth 100000 in
theorem c92 (w : World) : Calls Tryz.prog 92 #[.int .i64 1, .int .i64 0, .slice none 0 0] w fun e w' => e = .returned (.tuple #[.string ⟨#[]⟩, .int .i64 0]) ∧ Below w.heap.size w w' := by
  have HB := Aside0.mk (Below.refl w.heap.size w)
  go_enter Tryz.func92, Tryz.ntmps92
  go_wp2_with (first | (go_at_call 81; refine (c81 _).mono ?_; rintro e w1 ⟨rfl, hb⟩; have n0_ := Aside0.mk (below_step (by repeat (first | (with_reducible first | exact HB.out | apply below_alloc | apply pw_below_drewN | apply below_drew1 | apply below_drew) | exact HB.out)) hb); clear HB hb; have HB := n0_; clear n0_))
  go_loopg [8, 22] 1 (fun kq v8 v22 w' => v8 = .slice none 0 0 ∧ v22 = .int .i64 0 ∧ Aside0 (kq = 1) ∧ Aside0 (Below w.heap.size w w'))
  case atStart => exact ⟨rfl, rfl, ⟨rfl⟩, ⟨(by repeat (first | (with_reducible first | exact HB.out | apply below_alloc | apply pw_below_drewN | apply below_drew1 | apply below_drew) | exact HB.out))⟩⟩
  case round =>
    clear HB
    obtain ⟨rfl, rfl, HK, HB⟩ := hrel
    cases gk with
    | zero => exact absurd HK.out (by decide)
    | succ k1 =>
      clear HK
      have hq := Lib.run_convert_nil_bytes (P := Tryz.prog) wr 191 9 5 0 Tryz.underlying191 Tryz.underlying5 Tryz.underlying9
      go_wp2
      go_ret2
      exact ⟨rfl, (by repeat (first | (with_reducible first | exact HB.out | apply below_alloc | apply pw_below_drewN | apply below_drew1 | apply below_drew) | exact HB.out))⟩
set_option maxHeartbeats 1000000 in
set_option maxRecDepth 100000 in
theorem c39 (w : World) : Calls Tryz.prog 39 #[.int .i64 1, .int .i64 0, .slice none 0 0] w fun e w' => e = .returned (.bool true) ∧ Below w.heap.size w w' := by
  have HB := Aside0.mk (Below.refl w.heap.size w)
  go_enter Tryz.func39, Tryz.ntmps39
  go_wp2_with (first | (go_at_call 71; refine (PJobBytes.cell_May.calls 1 0 true _ rfl).mono ?_; rintro e w1 ⟨rfl, ⟨nd_, rfl⟩⟩) | (go_at_call 79; refine (c79 _ _).mono ?_; rintro e w1 ⟨rfl, hb⟩; have n0_ := Aside0.mk (below_step (by repeat (first | (with_reducible first | exact HB.out | apply below_alloc | apply pw_below_drewN | apply below_drew1 | apply below_drew) | exact HB.out)) hb); clear HB hb; have HB := n0_; clear n0_))
  go_ret
  exact ⟨rfl, (by repeat (first | (with_reducible first | exact HB.out | apply below_alloc | apply pw_below_drewN | apply below_drew1 | apply below_drew) | exact HB.out))⟩
set_option maxHeartbeats 1000000 in
set_option maxRecDepth 100000 in
theorem c60 (id : Int) (p : ByteArray) (sp : Value) (pt : Int) (w : World) : Calls Tryz.prog 60 #[.agg #[.int .i64 id, .string p, .int .i64 1, .int .i64 0, .int .i64 0, sp, .int .i64 pt]] w fun e w' => e = .returned (.bool true) ∧ Below w.heap.size w w' := by
  have HB := Aside0.mk (Below.refl w.heap.size w)
  go_enter Tryz.func60, Tryz.ntmps60
  go_wp2_with (first | (go_at_call 71; refine (PJobBytes.cell_May.calls 1 0 true _ rfl).mono ?_; rintro e w1 ⟨rfl, ⟨nd_, rfl⟩⟩))
  go_ret
  exact ⟨rfl, (by repeat (first | (with_reducible first | exact HB.out | apply below_alloc | apply pw_below_drewN | apply below_drew1 | apply below_drew) | exact HB.out))⟩
set_option maxHeartbeats 1000000 in
set_option maxRecDepth 100000 in
theorem c177 (w : World) : Calls Tryz.prog 177 #[.int .i64 1] w fun e w' => e = .returned (.bool true) ∧ Below w.heap.size w w' := by
  have HB := Aside0.mk (Below.refl w.heap.size w)
  go_enter Tryz.func177, Tryz.ntmps177
  go_wp2
  go_ret
  exact ⟨rfl, (by repeat (first | (with_reducible first | exact HB.out | apply below_alloc | apply pw_below_drewN | apply below_drew1 | apply below_drew) | exact HB.out))⟩
end Go.Proofs.YtpepmmfhanaipaaGreatDoor.Wk
end
section
namespace Go.Proofs.YtpepmmfhanaipaaGreatDoor.Wk
open Go.RowKit Go.Shelf Go.Proofs.YtpepmmfhanaipaaGreatDoorW.PrintWords Go.Proofs.YtpepmmfhanaipaaGreatDoorW.PrintLast Go.Proofs.YtpepmmfhanaipaaGreatDoorW.PrintMore
set_option linter.unusedVariables false
set_option linter.unusedSimpArgs false
theorem run_range_empty {P : Program} (w : World) (t k e : TypeId) (m : Nat) (ht : P.underlying t = some (.map k e)) (hm : w.heap[m]? = some (.map #[] 0)) :
    (Instr.range t (.map (some m))).run P w = .ok (.pointer (some ⟨w.heap.size, 0, none⟩)) (w.alloc (.mapIter (some m) 0 #[] 0)) := by
  simp [Instr.range, run_underlying ht, getObj, Sem.run_bind, Sem.run, hm, Result.andThen]
theorem run_next_empty {P : Program} (w : World) (ty : TypeId) (m it : Nat) (hi : w.heap[it]? = some (.mapIter (some m) 0 #[] 0)) (hm : w.heap[m]? = some (.map #[] 0)) :
    (Instr.next (.pointer (some ⟨it, 0, none⟩)) false ty).run P w = .ok (.tuple #[.bool false]) w := by
  simp only [Instr.next, getObj, Sem.run_bind, Sem.run, hi, hm, Result.andThen]
  have hf : ∀ p : MapEntry → Bool, Array.filter p #[] 0 0 = #[] := fun p => rfl
  have hf2 : Array.filter (fun e : MapEntry => !(#[] : Array Nat).contains e.born) #[] = #[] := rfl
  simp [hf, hf2, Sem.run_bind, Question.forced, Result.andThen]
theorem new_cell_c (w : World) (v : Value) (t : TypeId) : (w.alloc (.cells #[v] t)).cell? ⟨w.heap.size, 0, none⟩ = some v := (blk_cell (heap_alloc_new w _) 0).trans rfl
theorem keep_cc {w w' : World} (hb : Below w.heap.size w w') {a : Addr} {v : Value} (h : w.cell? a = some v) : w'.cell? a = some v := (hb.cell (World.block_lt_of_cell? w a h)).trans h
theorem lt_blkc {w : World} {g : Nat} {o : Obj} (h : w.heap[g]? = some o) : g < w.heap.size := (Array.getElem?_eq_some_iff.1 h).1
set_option maxHeartbeats 1000000 in
set_option maxRecDepth 100000 in
theorem c143 (yv : Value) (B m : Nat) (w : World) (h : w.cell? ⟨B, 0, none⟩ = some (.map (some m))) (hm : w.heap[m]? = some (.map #[] 0)) : Calls Tryz.prog 143 #[yv, .pointer (some ⟨B, 0, none⟩)] w fun e w' => (∃ v, e = .returned v) ∧ w' = w.alloc (.mapIter (some m) 0 #[] 0) := by
  have hr := run_range_empty w 170 78 91 m Tryz.underlying170 hm
  have hn := fun ty => run_next_empty (P := Tryz.prog) (w.alloc (.mapIter (some m) 0 #[] 0)) ty m w.heap.size (heap_alloc_new w _) (blk_alloc hm _)
  go_enter Tryz.func143, Tryz.ntmps143
  go_wp2
  go_loopg [6] 1 (fun kq v6 w' => Aside0 (kq = 1) ∧ w' = w.alloc (.mapIter (some m) 0 #[] 0))
  case atStart => exact ⟨⟨rfl⟩, rfl⟩
  case round =>
    obtain ⟨HK, rfl⟩ := hrel
    cases gk with
    | zero => exact absurd HK.out (by decide)
    | succ k1 =>
      clear HK
      go_wp2
      go_end0
      exact ⟨⟨_, rfl⟩, rfl⟩
set_option maxHeartbeats 1000000 in
set_option maxRecDepth 100000 in
theorem c110 (m : Nat) (w : World) : Calls Tryz.prog 110 #[.map (some m)] w fun e w' => e = .returned (.func (.func 143) #[] #[.pointer (some ⟨w.heap.size, 0, none⟩)]) ∧ w' = w.alloc (.cells #[.map (some m)] 170) := by
  go_enter Tryz.func110, Tryz.ntmps110
  go_wp2
  go_ret
  exact ⟨rfl, rfl⟩
set_option maxHeartbeats 1000000 in
set_option maxRecDepth 100000 in
theorem c74 (w : World) : Calls Tryz.prog 74 #[.int .i64 1, .int .i64 0] w fun e w' => e = .returned (.pointer (some ⟨w.heap.size + 1, 0, none⟩)) ∧ w' = (w.alloc (.map #[] 0)).alloc (.cells #[.int .i64 1, .int .i64 0, .map (some w.heap.size), .bool false] 172) := by
  have hmm := @run_makeMap Tryz.prog
  go_enter Tryz.func74, Tryz.ntmps74
  go_wp2
  go_ret
  exact ⟨rfl, rfl⟩
theorem keys_stops (n : Nat) (B m : Nat) (w0 : World) (h : w0.cell? ⟨B, 0, none⟩ = some (.map (some m))) (hm : w0.heap[m]? = some (.map #[] 0)) :
    SeqStopsK (α := Empty) Fence.wide n Tryz.prog 143 #[.pointer (some ⟨B, 0, none⟩)] (fun x => x.elim) (fun _ _ => True) (fun xs => xs = []) (fun _ => False) 0 w0 :=
  fun l J Jx W hW hJ _ _ h0 => callsIn_wide.2 ((c143 _ B m W (keep_cc hW h) ((hW.block _ (lt_blkc hm)).trans hm)).mono fun e w' ⟨he, hw⟩ => ⟨he, .inl ⟨[], rfl, hw ▸ hJ [] W _ none h0 (World.grownBy_alloc W _ none) (fun r e => by cases e)⟩⟩)
attribute [local go_sem] Oper.semAt_some
theorem ownFrom_blkc {β : Type} {B : Nat} (b : Nat) (cs : Array Value) (t : TypeId) (fr : Nat × Nat) : OwnFrom B (fun (_ : β) W => W.heap[b]? = some (.cells cs t fr)) := by
  intro s W W' row h hg hr
  refine (hg.block b (Array.getElem?_eq_some_iff.1 h).1 ?_).trans h
  intro e
  obtain ⟨_, o, ho, hc⟩ := hr b e.symm
  rw [h] at ho
  cases ho
  cases hc
set_option maxHeartbeats 1000000 in
set_option maxRecDepth 100000 in
theorem c164 (B m : Nat) (w : World) (h : w.cell? ⟨B, 0, none⟩ = some (.map (some m))) (hm : w.heap[m]? = some (.map #[] 0)) : Calls Tryz.prog 164 #[.slice none 0 0, .func (.func 143) #[] #[.pointer (some ⟨B, 0, none⟩)]] w fun e w' => e = .returned (.slice none 0 0) ∧ Below w.heap.size w w' := by
  refine (callsIn_wide (n := 3)).1 ?_
  refine callsIn_of_wp_marks Tryz.func164 rfl trivial ?_ rfl
  simp only [Tryz.ntmps164, List.size_toArray, List.length_cons, List.length_nil, Nat.reduceAdd, Nat.reduceSub, Array.replicate_succ, Array.replicate_zero, List.push_toArray, List.append_toArray, List.nil_append, List.cons_append]
  gi_wp2
  have x2 := heap_alloc_new w (.cells #[.slice none 0 0] 143)
  have xB : Below w.heap.size w (w.alloc (.cells #[.slice none 0 0] 143)) := below_alloc (Below.refl _ _) _
  have hs := keys_stops (3 - 1) B m (w.alloc (.cells #[.slice none 0 0] 143)) (keep_cc (below_alloc (Below.refl _ _) _) h) (blk_alloc hm _)
  generalize w.alloc (.cells #[.slice none 0 0] 143) = W0 at x2 xB hs ⊢
  refine wpIn_rangeFunc_ownF (F := Fence.wide) rfl (by omega) (gf := 143) (lb := #[.pointer (some ⟨B, 0, none⟩)]) rfl trivial (enters_of Tryz.func143 (by kernel_rfl) rfl)
    hs (fun _ _ => trivial) (fun _ _ _ _ _ _ _ _ => trivial) (Below.refl _ _) (fun x => x.elim)
    (fun _ W => W.heap[w.heap.size]? = some (.cells #[.slice none 0 0] 143 (0, 0)) ∧ Below w.heap.size w W)
    (fun _ _ _ => False)
    (OwnFrom.and (ownFrom_blkc _ _ _ _) (ownFrom_below (Nat.le_refl _) xB.size))
    (fun _ _ _ _ _ h _ _ => h)
    ⟨x2, xB⟩ (fun x => x.elim) ?assign ?body ?done ?stop
  case assign =>
    intro l x
    exact x.elim
  case body =>
    intro l pre x
    exact x.elim
  case done =>
    rintro D xs W hD rfl ⟨y2, yB⟩ hK
    have m2 := blk_cell y2 0
    simp at m2
    gi_wp2
    refine ⟨by simp, .inl ⟨_, _, rfl, run_takeDeferred hK, ?_⟩⟩
    exact ⟨_, results_tmp rfl _ _ _, rfl, yB.trans (belowK_b (w := w) (Nat.le_refl _) W D _ _ (Nat.le_trans xB.size hD) hK rfl rfl)⟩
  case stop =>
    rintro D c pre W _ h
    exact h.elim
end Go.Proofs.YtpepmmfhanaipaaGreatDoor.Wk
end
section
namespace Go.Proofs.YtpepmmfhanaipaaGreatDoor.Wk
open Go.RowKit Go.Shelf Go.Proofs.YtpepmmfhanaipaaGreatDoorW.PrintWords Go.Proofs.YtpepmmfhanaipaaGreatDoorW.PrintLast Go.Proofs.YtpepmmfhanaipaaGreatDoorW.PrintMore
set_option linter.unusedVariables false
set_option linter.unusedSimpArgs false
attribute [local go_sem] Oper.semAt_some
theorem keep_c {w w' : World} (hb : Below w.heap.size w w') {a : Addr} {v : Value} (h : w.cell? a = some v) : w'.cell? a = some v := (hb.cell (World.block_lt_of_cell? w a h)).trans h
set_option maxHeartbeats 1000000 in
set_option maxRecDepth 100000 in
theorem c73 (yv : Value) (B1 B2 : Nat) (w : World) (h : w.cell? ⟨B1, 0, none⟩ = some (.slice none 0 0)) : Calls Tryz.prog 73 #[yv, .pointer (some ⟨B1, 0, none⟩), .pointer (some ⟨B2, 0, none⟩)] w fun e w' => (∃ v, e = .returned v) ∧ w' = w := by
  go_enter Tryz.func73, Tryz.ntmps73
  go_wp2
  go_loopg [4] 1 (fun kq v4 w' => v4 = .int .i64 0 ∧ Aside0 (kq = 1) ∧ w' = w)
  case atStart => exact ⟨rfl, ⟨rfl⟩, rfl⟩
  case round =>
    obtain ⟨rfl, HK, rfl⟩ := hrel
    cases gk with
    | zero => exact absurd HK.out (by decide)
    | succ k1 =>
      clear HK
      go_wp2
      go_end0
      exact ⟨⟨_, rfl⟩, rfl⟩
set_option maxHeartbeats 1000000 in
set_option maxRecDepth 100000 in
theorem c36 (w : World) : Calls Tryz.prog 36 #[.slice none 0 0, .int .i64 32] w fun e w' => e = .returned (.func (.func 73) #[] #[.pointer (some ⟨w.heap.size, 0, none⟩), .pointer (some ⟨w.heap.size + 1, 0, none⟩)]) ∧ w' = (w.alloc (.cells #[.slice none 0 0] 23)).alloc (.cells #[.int .i64 32] 3) := by
  go_enter Tryz.func36, Tryz.ntmps36
  go_wp2
  go_ret
  exact ⟨rfl, rfl⟩
theorem chunk_stops (n : Nat) (B1 B2 : Nat) (w0 : World) (hlt : B1 < w0.heap.size) (h : w0.cell? ⟨B1, 0, none⟩ = some (.slice none 0 0)) :
    SeqStopsK (α := Empty) Fence.wide n Tryz.prog 73 #[.pointer (some ⟨B1, 0, none⟩), .pointer (some ⟨B2, 0, none⟩)] (fun x => x.elim) (fun _ _ => True) (fun xs => xs = []) (fun _ => False) 0 w0 :=
  fun l J Jx W hW _ _ _ h0 => callsIn_wide.2 ((c73 _ B1 B2 W (keep_c hW h)).mono fun e w' ⟨he, hw⟩ => ⟨he, .inl ⟨[], rfl, hw ▸ h0⟩⟩)
theorem results_cell2 {fn : Func} {p q : Tmp} {t1 t2 : TypeId} (h : fn.results = #[.cell p t1, .cell q t2]) (tmps : Array Value) (P : Program) (w : World) :
    (results fn tmps).run P w = ((do let x ← loadVar t1 (← asAddr (tmps.getD p undef)); let y ← loadVar t2 (← asAddr (tmps.getD q undef)); pure (Value.tuple #[x, y])) : Sem Value).run P w := by
  simp [results, h, Sem.run_bind]
theorem ownFrom_blk {β : Type} {B : Nat} (b : Nat) (cs : Array Value) (t : TypeId) (fr : Nat × Nat) : OwnFrom B (fun (_ : β) W => W.heap[b]? = some (.cells cs t fr)) := by
  intro s W W' row h hg hr
  refine (hg.block b (Array.getElem?_eq_some_iff.1 h).1 ?_).trans h
  intro e
  obtain ⟨_, o, ho, hc⟩ := hr b e.symm
  rw [h] at ho
  cases ho
  cases hc
theorem lt_blk {w : World} {g : Nat} {o : Obj} (h : w.heap[g]? = some o) : g < w.heap.size := (Array.getElem?_eq_some_iff.1 h).1
set_option maxHeartbeats 1000000 in
set_option maxRecDepth 100000 in
theorem c7 (w : World) : Calls Tryz.prog 7 #[.int .i64 1, .int .i64 0, .int .i64 32, .slice none 0 0] w fun e w' => e = .returned (.tuple #[.slice none 0 0, .int .i64 0]) ∧ Below w.heap.size w w' := by
  refine (callsIn_wide (n := 3)).1 ?_
  refine callsIn_of_wp_marks Tryz.func7 rfl trivial ?_ rfl
  simp only [Tryz.ntmps7, List.size_toArray, List.length_cons, List.length_nil, Nat.reduceAdd, Nat.reduceSub, Array.replicate_succ, Array.replicate_zero, List.push_toArray, List.append_toArray, List.nil_append, List.cons_append]
  have a8 : ((((w.alloc (.cells #[.int .i64 1] 3)).alloc (.cells #[.int .i64 0] 3)).alloc (.cells #[.slice none 0 0] 22)).alloc (.cells #[.int .i64 0] 27)).heap[w.heap.size + 1 + 1]? = some (.cells #[.slice none 0 0] 22 (0, 0)) := by
    refine blk_alloc ?_ _
    have := heap_alloc_new ((w.alloc (.cells #[.int .i64 1] 3)).alloc (.cells #[.int .i64 0] 3)) (.cells #[.slice none 0 0] 22)
    simpa using this
  have a9 : ((((w.alloc (.cells #[.int .i64 1] 3)).alloc (.cells #[.int .i64 0] 3)).alloc (.cells #[.slice none 0 0] 22)).alloc (.cells #[.int .i64 0] 27)).heap[w.heap.size + 1 + 1 + 1]? = some (.cells #[.int .i64 0] 27 (0, 0)) := by
    have := heap_alloc_new (((w.alloc (.cells #[.int .i64 1] 3)).alloc (.cells #[.int .i64 0] 3)).alloc (.cells #[.slice none 0 0] 22)) (.cells #[.int .i64 0] 27)
    simpa using this
  have aB : Below w.heap.size w ((((w.alloc (.cells #[.int .i64 1] 3)).alloc (.cells #[.int .i64 0] 3)).alloc (.cells #[.slice none 0 0] 22)).alloc (.cells #[.int .i64 0] 27)) := below_alloc (below_alloc (below_alloc (below_alloc (Below.refl _ _) _) _) _) _
  have A8 := Aside0.mk a8
  have A9 := Aside0.mk a9
  have AB := Aside0.mk aB
  have AG8 := Aside0.mk (show w.heap.size ≤ w.heap.size + 1 + 1 by omega)
  have AG9 := Aside0.mk (show w.heap.size ≤ w.heap.size + 1 + 1 + 1 by omega)
  clear a8 a9 aB
  gi_wp2_with (first
    | (refine ⟨trivial, ?_⟩; gi_at_call 35; refine (callsIn_wide.2 (c35 _)).mono ?_; rintro e w1 ⟨rfl, hb⟩; have A8b := Aside0.mk ((hb.block _ (lt_blk A8.out)).trans A8.out); have A9b := Aside0.mk ((hb.block _ (lt_blk A9.out)).trans A9.out); have ABb := Aside0.mk (below_step AB.out hb); clear hb A8 A9 AB; generalize hb9 : w.heap.size + 1 + 1 + 1 = b9 at A9b AG9 ⊢; generalize hb8 : w.heap.size + 1 + 1 = b8 at A8b AG8 ⊢; clear hb8 hb9)
    | (refine ⟨trivial, ?_⟩; gi_at_call 36; refine (callsIn_wide.2 (c36 _)).mono ?_; rintro e w2 ⟨rfl, rfl⟩))
  have x10 : (((w1.alloc (.cells #[.slice none 0 0] 22)).alloc (.cells #[.slice none 0 0] 23)).alloc (.cells #[.int .i64 32] 3)).heap[w1.heap.size]? = some (.cells #[.slice none 0 0] 22 (0, 0)) := blk_alloc (blk_alloc (heap_alloc_new w1 _) _) _
  have x23 : (((w1.alloc (.cells #[.slice none 0 0] 22)).alloc (.cells #[.slice none 0 0] 23)).alloc (.cells #[.int .i64 32] 3)).heap[w1.heap.size + 1]? = some (.cells #[.slice none 0 0] 23 (0, 0)) := by
    refine blk_alloc ?_ _
    have := heap_alloc_new (w1.alloc (.cells #[.slice none 0 0] 22)) (.cells #[.slice none 0 0] 23)
    simpa using this
  have x8 := blk_alloc (blk_alloc (blk_alloc A8b.out (.cells #[.slice none 0 0] 22)) (.cells #[.slice none 0 0] 23)) (.cells #[.int .i64 32] 3)
  have x9 := blk_alloc (blk_alloc (blk_alloc A9b.out (.cells #[.slice none 0 0] 22)) (.cells #[.slice none 0 0] 23)) (.cells #[.int .i64 32] 3)
  have xB := below_alloc (below_alloc (below_alloc ABb.out (.cells #[.slice none 0 0] 22)) (.cells #[.slice none 0 0] 23)) (.cells #[.int .i64 32] 3)
  have xg := ABb.out.size
  have x89 : b8 < w1.heap.size ∧ b9 < w1.heap.size := ⟨lt_blk A8b.out, lt_blk A9b.out⟩
  generalize ((w1.alloc (.cells #[.slice none 0 0] 22)).alloc (.cells #[.slice none 0 0] 23)).alloc (.cells #[.int .i64 32] 3) = W0 at x10 x23 x8 x9 xB ⊢
  refine wpIn_rangeFunc_ownF (F := Fence.wide) rfl (by omega) (gf := 73) (lb := #[.pointer (some ⟨w1.heap.size + 1, 0, none⟩), .pointer (some ⟨w1.heap.size + 1 + 1, 0, none⟩)]) rfl trivial (enters_of Tryz.func73 (by kernel_rfl) rfl)
    (chunk_stops _ (w1.heap.size + 1) (w1.heap.size + 1 + 1) W0 (lt_blk x23) ((blk_cell x23 0).trans rfl)) (fun _ _ => trivial) (fun _ _ _ _ _ _ _ _ => trivial) (Below.refl _ _) (fun x => x.elim)
    (fun _ W => ((W.heap[b8]? = some (.cells #[.slice none 0 0] 22 (0, 0)) ∧ W.heap[b9]? = some (.cells #[.int .i64 0] 27 (0, 0))) ∧ W.heap[w1.heap.size]? = some (.cells #[.slice none 0 0] 22 (0, 0))) ∧ Below w.heap.size w W)
    (fun _ _ _ => False)
    (OwnFrom.and (OwnFrom.and (OwnFrom.and (ownFrom_blk _ _ _ _) (ownFrom_blk _ _ _ _)) (ownFrom_blk _ _ _ _)) (ownFrom_below (Nat.le_refl _) xB.size))
    (fun _ _ _ _ _ h _ _ => h)
    ⟨⟨⟨x8, x9⟩, x10⟩, xB⟩ (fun x => x.elim) ?assign ?body ?done ?stop
  case assign =>
    intro l x
    exact x.elim
  case body =>
    intro l pre x
    exact x.elim
  case done =>
    rintro D xs W hD rfl ⟨⟨⟨y8, y9⟩, y10⟩, yB⟩ hK
    obtain ⟨m8, m9, m10, f8, f9⟩ := And.intro (blk_cell y8 0) (And.intro (blk_cell y9 0) (And.intro (blk_cell y10 0) (And.intro (blk_frozen y8 0) (blk_frozen y9 0))))
    simp at m8 m9 m10
    have hne : b9 ≠ b8 := by
      rintro rfl
      rw [y8] at y9
      cases y9
    have z9 := (Below.heap_setCell W ⟨b8, 0, none⟩ (.slice none 0 0) b9 hne).trans y9
    have m9b := blk_cell z9 0
    have f9b := blk_frozen z9 0
    simp at m9b
    gi_wp2
    have hs1 := KeepsOthers.setCell W ⟨b8, 0, none⟩ (.slice none 0 0)
    have hs2 := hs1.trans (KeepsOthers.setCell _ ⟨b9, 0, none⟩ (.int .i64 0))
    have hK' := hs2.same D _ hK rfl
    have q8 : ((W.setCell ⟨b8, 0, none⟩ (.slice none 0 0)).setCell ⟨b9, 0, none⟩ (.int .i64 0)).heap[b8]? = some (.cells #[.slice none 0 0] 22 (0, 0)) := (Below.heap_setCell _ ⟨b9, 0, none⟩ (.int .i64 0) b8 (fun e => hne e.symm)).trans (blk_set y8 0 (.slice none 0 0))
    have q9 : ((W.setCell ⟨b8, 0, none⟩ (.slice none 0 0)).setCell ⟨b9, 0, none⟩ (.int .i64 0)).heap[b9]? = some (.cells #[.int .i64 0] 27 (0, 0)) := blk_set z9 0 (.int .i64 0)
    have qB : Below w.heap.size w ((W.setCell ⟨b8, 0, none⟩ (.slice none 0 0)).setCell ⟨b9, 0, none⟩ (.int .i64 0)) := (yB.setCell (p := ⟨b8, 0, none⟩) AG8.out _).setCell (p := ⟨b9, 0, none⟩) AG9.out _
    generalize (W.setCell ⟨b8, 0, none⟩ (.slice none 0 0)).setCell ⟨b9, 0, none⟩ (.int .i64 0) = W2 at hK' q8 q9 qB ⊢
    refine ⟨by simp, .inl ⟨_, _, rfl, run_takeDeferred hK', ?_⟩⟩
    have hD8 : D ≠ b8 := by rintro rfl; rw [q8] at hK'; cases hK'
    have hD9 : D ≠ b9 := by rintro rfl; rw [q9] at hK'; cases hK'
    have r8 : (W2.putObj D (.deferred none)).heap[b8]? = some (.cells #[.slice none 0 0] 22 (0, 0)) := (World.putObj_heap_other (fun e => hD8 e.symm)).trans q8
    have r9 : (W2.putObj D (.deferred none)).heap[b9]? = some (.cells #[.int .i64 0] 27 (0, 0)) := (World.putObj_heap_other (fun e => hD9 e.symm)).trans q9
    refine ⟨_, (results_cell2 (fn := Tryz.f7) (p := 8) (q := 9) rfl _ _ _).trans ?_, rfl, ?_⟩
    · have k8 := (blk_cell r8 0)
      have k9 := (blk_cell r9 0)
      simp at k8 k9
      have u22 := Tryz.underlying22
      have u27 := Tryz.underlying27
      simp [go_sem, k8, k9, u22, u27, Sem.run_bind, Result.andThen]
    · exact qB.trans (belowK_b (w := w) (Nat.le_refl _) W2 D _ _ (Nat.le_trans xB.size hD) hK' rfl rfl)
  case stop =>
    rintro D c pre W _ h
    exact h.elim
end Go.Proofs.YtpepmmfhanaipaaGreatDoor.Wk
end
