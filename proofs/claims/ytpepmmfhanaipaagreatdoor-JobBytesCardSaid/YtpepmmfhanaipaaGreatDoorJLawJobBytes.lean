-- Put together by mergex.py out of this workplace's texts.
import Derived.Test.YtpepmmfhanaipaaGreatDoorRows
import Derived.Test.YtpepmmfhanaipaaGreatDoorJPJobBytesx6
import Derived.Test.YtpepmmfhanaipaaGreatDoorJOpen
import Derived.Test.YtpepmmfhanaipaaGreatDoorJi
import Derived.Test.YtpepmmfhanaipaaGreatDoorJLaid
import Derived.Test.YtpepmmfhanaipaaGreatDoorCards
import Derived.Test.YtpepmmfhanaipaaGreatDoorTie
import Derived.WalkKit
import Derived.ProofKit
import Derived.OpenShut
import Derived.ShutString
import Derived.ChangeOld
import Derived.Below
import Derived.SizedLaws
import Derived.Carry
import Derived.SevenTiedAt
namespace Go.Proofs.YtpepmmfhanaipaaGreatDoor.jobBytes
open Go.Proofs.YtpepmmfhanaipaaGreatDoor.Lang Go.ChangeShapes Go.WideShapes Go.ChangeAt Go.RowKit Go.Proofs.YtpepmmfhanaipaaGreatDoorW.PrintWords Go.Proofs.YtpepmmfhanaipaaGreatDoor.Open Go.Proofs.YtpepmmfhanaipaaGreatDoor.PJobBytes
set_option linter.unusedVariables false
theorem own : ownKnob Tryz.prog.godebug = none := by kernel_rfl
theorem laidOut : laidOutB Tryz.prog = true := by kernel_rfl
set_option maxRecDepth 100000 in
theorem lifted (os : Os) (started : os.Started) (H : Type) (enc : TypeId × Value → H) :
    ReturnsInHanded {} Tryz.checked os 5 .any (fun w args => (Rows.jobBytesSpec.pre enc Tryz.prog Tryz.f5 Rows.jobBytesRow.domain false w args ∧ laidMetH Tryz.prog laid7 w) ∧ sizedMet enc Tryz.prog Tryz.f5 (OpenSpec.ofChange Rows.jobBytesSpec) false w args)
      (Rows.jobBytesSpec.post enc Tryz.prog Tryz.f5 false true false false) := by
  refine returnsInHanded_of_change_and (C := Tryz.checked) (X := fun w _ => laidMetH Tryz.prog laid7 w) (fun _ _ _ hh h => h.of_heap hh) own started (by kernel_rfl) Tryz.func5
    (ChangeSpec.witness_shaped (enc := enc) (C := Tryz.checked) (os := os) (X := fun w _ => laidMetH Tryz.prog laid7 w) false (World.laidAll Tryz.prog os laid7) #[.agg #[.int .i64 0, .slice none 0 0, .int .i64 0, .int .i64 0, .slice none 0 0, .slice none 0 0, .string ByteArray.empty]] 8 (World.laidAll_os _ _ _)
      (World.shaped_of_ZipB (by kernel_rfl) (by kernel_rfl)) (by kernel_rfl) (by kernel_rfl) (by kernel_rfl)
      (by rw [MakeChecks.laidMetH_plain _ _ _ (by kernel_rfl)]; exact laidMet_laidAll _ (by kernel_rfl) (by kernel_rfl))) ?_
  intro W base args ds gs before hval0 hW hcnd hsz0 hL _
  have hsz : (DataW.weightsEach Tryz.prog (Tryz.f5.params.toList ++ Rows.jobBytesSpec.plain.varTypes Tryz.prog) (ds ++ gs)).all (· ≤ reachBytes) = true := hsz0
  have hval : ∀ (j : Nat) t v, Tryz.f5.params[j]? = some t → args[j]? = some v → Value.okWide Tryz.prog W .any base t v := hval0
  have hW' := hW
  obtain ⟨p, q, hA0, hV, rfl, hfz, hnd⟩ := hW
  have hA : DataW.TrodAll enc Tryz.prog W 0 (fun _ => true) true Tryz.f5.params.toList args.toList ds p := hA0
  rw [Tryz.params5] at hA hval hsz
  obtain ⟨v0, vs0, d0, ds0, p0, q0, hargs, rfl, rfl, h0, r0⟩ := trodAll_cons hA
  obtain ⟨rfl, rfl, rfl⟩ := trodAll_nil r0
  obtain rfl : args = #[v0] := by cases args; simp_all
  obtain ⟨rfl, rfl⟩ := trodVars_none hV
  have hwt := weights_of hsz (j := 0) (t := 57) rfl rfl
  have lt0 : ∀ x ∈ p0, x.block < W.heap.size := by obtain ⟨m, hm⟩ := h0; exact DataW.trod_lt m _ _ _ hm
  obtain ⟨cs, rfl, hcsz⟩ := okWide_struct Tryz.underlying57 (hval 0 57 v0 rfl rfl)
  have k0 := h0
  obtain ⟨fuel, hf⟩ := h0
  have hf' : DataW.trod enc Tryz.prog W 0 (fun _ => true) true fuel 57 cs.toList = some (d0, p0) := hf
  obtain ⟨a, hK, hI⟩ := Opens.go (d := (Kd.pair (Kd.pair (Kd.pair (Kd.int .i64) (Kd.pair (Kd.slice 123 k123) (Kd.pair (Kd.int .i64) (Kd.int .i64)))) (Kd.slice 3 (Kd.int .i64))) (Kd.pair (Kd.slice 63 k63) Kd.string))) (opens_struct (d := (Kd.pair (Kd.pair (Kd.pair (Kd.int .i64) (Kd.pair (Kd.slice 123 k123) (Kd.pair (Kd.int .i64) (Kd.int .i64)))) (Kd.slice 3 (Kd.int .i64))) (Kd.pair (Kd.slice 63 k63) Kd.string))) Tryz.underlying57 (by kernel_rfl) (opensF_cons rfl rfl (opens_struct (d := (Kd.pair (Kd.pair (Kd.int .i64) (Kd.pair (Kd.slice 123 k123) (Kd.pair (Kd.int .i64) (Kd.int .i64)))) (Kd.slice 3 (Kd.int .i64)))) Tryz.underlying54 (by kernel_rfl) (opensF_cons rfl rfl (opens_struct (d := (Kd.pair (Kd.int .i64) (Kd.pair (Kd.slice 123 k123) (Kd.pair (Kd.int .i64) (Kd.int .i64))))) Tryz.underlying51 (by kernel_rfl) (opensF_cons rfl rfl (opens_int Tryz.underlying3 (by kernel_rfl)) (opensF_cons rfl rfl (opens_slice (B := 48) Tryz.underlying49 (by kernel_rfl) (opens_iso (opens_struct (d := (Kd.pair (Kd.int .i64) (Kd.pair Kd.string (Kd.slice 3 (Kd.int .i64))))) Tryz.underlying123 (by kernel_rfl) (opensF_cons rfl rfl (opens_int Tryz.underlying3 (by kernel_rfl)) (opensF_cons rfl rfl (opens_string Tryz.underlying9 (by kernel_rfl)) (opensF_one rfl rfl (opens_slice (B := 8) Tryz.underlying52 (by kernel_rfl) (opens_int Tryz.underlying3 (by kernel_rfl)) (by kernel_rfl)))))) (fun x : S123 => (x.f0, x.f1, x.f2)) (fun p => ⟨p.1, p.2.1, p.2.2⟩) (fun _ => rfl)) (by kernel_rfl)) (opensF_cons rfl rfl (opens_int Tryz.underlying3 (by kernel_rfl)) (opensF_one rfl rfl (opens_int Tryz.underlying3 (by kernel_rfl))))))) (opensF_one rfl rfl (opens_slice (B := 8) Tryz.underlying52 (by kernel_rfl) (opens_int Tryz.underlying3 (by kernel_rfl)) (by kernel_rfl))))) (opensF_cons rfl rfl (opens_slice (B := 80) Tryz.underlying55 (by kernel_rfl) (opens_iso (opens_struct (d := (Kd.pair (Kd.int .i64) (Kd.pair Kd.string (Kd.pair (Kd.int .i64) (Kd.pair (Kd.int .i64) (Kd.pair (Kd.int .i64) (Kd.pair (Kd.slice 3 (Kd.int .i64)) (Kd.int .i64)))))))) Tryz.underlying63 (by kernel_rfl) (opensF_cons rfl rfl (opens_int Tryz.underlying3 (by kernel_rfl)) (opensF_cons rfl rfl (opens_string Tryz.underlying9 (by kernel_rfl)) (opensF_cons rfl rfl (opens_int Tryz.underlying3 (by kernel_rfl)) (opensF_cons rfl rfl (opens_int Tryz.underlying3 (by kernel_rfl)) (opensF_cons rfl rfl (opens_int Tryz.underlying3 (by kernel_rfl)) (opensF_cons rfl rfl (opens_slice (B := 8) Tryz.underlying52 (by kernel_rfl) (opens_int Tryz.underlying3 (by kernel_rfl)) (by kernel_rfl)) (opensF_one rfl rfl (opens_int Tryz.underlying3 (by kernel_rfl)))))))))) (fun x : S63 => (x.f0, x.f1, x.f2, x.f3, x.f4, x.f5, x.f6)) (fun p => ⟨p.1, p.2.1, p.2.2.1, p.2.2.2.1, p.2.2.2.2.1, p.2.2.2.2.2.1, p.2.2.2.2.2.2⟩) (fun _ => rfl)) (by kernel_rfl)) (opensF_one rfl rfl (opens_string Tryz.underlying9 (by kernel_rfl)))))) hf' hwt
  obtain ⟨csl, hcsl⟩ : ∃ l, l = cs.toList := ⟨_, rfl⟩
  rw [← hcsl] at hK
  obtain ⟨_, _, rfl, ⟨_, _, rfl, ⟨_, _, rfl, rfl, ⟨_, _, rfl, ⟨A0, c0, rfl, hc0, hr0⟩, ⟨_, _, rfl, rfl, rfl⟩⟩⟩, ⟨A1, c1, rfl, hc1, hr1⟩⟩, ⟨_, _, rfl, ⟨A2, c2, rfl, hc2, hr2⟩, rfl⟩⟩ := hK
  obtain rfl : cs = #[.int .i64 a.1.1.1, .slice A0 a.1.1.2.1.length c0, .int .i64 a.1.1.2.2.1, .int .i64 a.1.1.2.2.2, .slice A1 a.1.2.length c1, .slice A2 a.2.1.length c2, .string a.2.2] := by cases cs; simpa using hcsl.symm
  obtain ⟨⟨⟨i0, i1, i2, i3⟩, i4⟩, i5, i6⟩ := hI
  obtain ⟨k, hk⟩ := Pure.JobBytes (a.1.1.1) (a.1.1.2.1) (a.1.1.2.2.1) (a.1.1.2.2.2) (a.1.2) (a.2.1) (a.2.2) i0 i1 i2 i3 i4 i5 i6
  clear hA0 hval0 hsz0 hsz
  refine (PJobBytes.thresherlaw14_JobBytes.calls (k := k) (a0_0 := a.1.1.1) (A0_1 := A0) (c0_1 := c0) (l0_1 := a.1.1.2.1) (hr0_1 := hr0) (hc0_1 := hc0) (a0_2 := a.1.1.2.2.1) (a0_3 := a.1.1.2.2.2) (A0_4 := A1) (c0_4 := c1) (l0_4 := a.1.2) (hr0_4 := hr1) (hc0_4 := hc1) (A0_5 := A2) (c0_5 := c2) (l0_5 := a.2.1) (hr0_5 := hr2) (hc0_5 := hc2) (a0_6 := a.2.2) (r := true) (w := W) (hL := Laid.of hL) (h := hk)).mono fun e W' ⟨he, bel0⟩ => ?_
  have bel : Below W.heap.size W W' := by first | exact bel0 | exact bel0.below
  subst he
  exact ⟨_, rfl, _, _, _, [], _, [], hW', trodAll_mk1 (shut_bool Tryz.underlying4 _), (trodAll_cons_mk (Below.trod laidOut (by kernel_rfl) (of_decide_eq_true (by kernel_rfl)) k0 bel lt0) trodAll_mk0), rfl, bel.frame _, fun h => by cases h⟩
theorem both {a b : Bool} (h : a = true) (k : b = true) : (a && b) = true := by rw [h, k]; rfl
set_option maxHeartbeats 4000000 in
theorem closed : joinedFacts Tryz.prog 5 Tryz.f5 Rows.jobBytesSpec Rows.jobBytesRow = true := by
  unfold joinedFacts
  repeat' (with_reducible refine both ?_ ?_)
  all_goals (as_aux_lemma => kernel_rfl)
theorem over : Rows.jobBytesRow.holds Tryz.pinned (OpenSpec.ofChange Rows.jobBytesSpec) :=
  OpenClaim.holds_of_wide 5 Tryz.f5 rfl rfl rfl rfl rfl rfl rfl ⟨rfl, rfl, rfl, rfl, rfl⟩ rfl rfl rfl rfl rfl (by kernel_rfl) Tryz.func5 closed
    (of_decide_eq_true (by kernel_rfl)) (by unfold Func.isWrapper; first | (rw [if_pos (by decide +kernel)]; kernel_rfl) | (rw [if_neg (by decide +kernel)]; exact ⟨rfl, rfl⟩))
    (fun os started H enc _ => lifted os started H enc)
theorem proved : Rows.JobBytesCardSaid :=
  Claim7.holds_tied_plain_at .later [] [.data, .data, .data, .sentinel, .sentinel, .listed, .data] true (true, "10bb83296132beab089ecf93be3e6f13751003ed63fa4ecf40bc64297c0ff8ef") true over (fun _ h => by cases h) (by kernel_rfl) (fun _ h => by cases h) jobBytes_row_tie rfl ⟨rfl, rfl⟩ (by kernel_rfl) rfl
    (fun f fn hf hfn => by
      obtain rfl : f = 5 := Option.some.inj ((show Tryz.prog.funcNamed "thresher/thresherlaw14.JobBytes" = some 5 by kernel_rfl).symm.trans hf) |>.symm
      obtain rfl : fn = Tryz.f5 := (Option.some.inj (Tryz.func5.symm.trans hfn)).symm
      exact ⟨by kernel_rfl, fun j t ht => by
        rw [Tryz.params5] at ht
        have hm : t ∈ [57] := by simpa using Array.mem_of_getElem? ht
        have hall : ([57].all fun u => !Tryz.prog.wantsStandIn u) = true := by kernel_rfl
        exact (show Tryz.prog.wantsStandIn t = false by simpa using List.all_eq_true.1 hall t hm)⟩)
    (by kernel_rfl)
#print axioms proved
end Go.Proofs.YtpepmmfhanaipaaGreatDoor.jobBytes
namespace Go.Proofs.YtpepmmfhanaipaaGreatDoor
theorem jobBytes_holds : Rows.JobBytesCardSaid := jobBytes.proved
end Go.Proofs.YtpepmmfhanaipaaGreatDoor
