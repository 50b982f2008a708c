/-
  The row of the law StreamChunks: for every input that the row reads it answers true, and its argument reads as before. No condition beyond the row's own.
-/
import Derived.Test.YtbadcpaopdbgnaaRows
import Derived.Test.YtbadcpaopdbgnaaOnlyB
import Derived.Test.YtbadcpaopdbgnaaOpen
import Derived.WalkKit
import Derived.ProofKit
import Derived.OpenShut
import Derived.ShutString
import Derived.ChangeOld
import Derived.Below
import Derived.SizedLaws
namespace Go.Proofs.Ytbadcpaopdbgnaa.streamChunks
open Go.ChangeShapes Go.WideShapes Go.ChangeAt Go.RowKit Go.Proofs.YtbadcpaopdbgnaaW.PrintWords Go.Proofs.Ytbadcpaopdbgnaa.Open Go.Proofs.Ytbadcpaopdbgnaa.PStreamExact
set_option linter.unusedVariables false
theorem own : ownKnob Try.prog.godebug = none := by kernel_rfl
theorem laidOut : laidOutB Try.prog = true := by kernel_rfl
set_option maxRecDepth 100000 in
theorem lifted (os : Os) (started : os.Started) (H : Type) (enc : TypeId × Value → H) :
    ReturnsInHanded {} Try.checked os 8 .any (Rows.streamChunksSpec.pre6 enc Try.prog Try.f8 Rows.streamChunksRow.domain false) (Rows.streamChunksSpec.post enc Try.prog Try.f8 false true false false) := by
  refine returnsInHanded_of_change_sized (C := Try.checked) own started (by kernel_rfl) Try.func8
    (ChangeSpec.witness6 (enc := enc) (C := Try.checked) false ⟨#[], #[.agg #[.string ByteArray.empty, .int .i64 0, .int .i64 0, .int .i64 0, .int .i64 0, .int .u32 0, .string ByteArray.empty, .bool false, .slice none 0 0]], []⟩ 8 (by kernel_rfl) (by kernel_rfl) (by kernel_rfl) (by kernel_rfl)) ?_
  intro W base args ds gs before hval0 hW hcnd hsz0 _
  have hsz : (DataW.weightsEach Try.prog (Try.f8.params.toList ++ Rows.streamChunksSpec.plain.varTypes Try.prog) (ds ++ gs)).all (· ≤ reachBytes) = true := hsz0
  have hval : ∀ (j : Nat) t v, Try.f8.params[j]? = some t → args[j]? = some v → Value.okWide Try.prog W .any base t v := hval0
  have hW' := hW
  obtain ⟨p, q, hA0, hV, rfl, hfz, hnd⟩ := hW
  have hA : DataW.TrodAll enc Try.prog W 0 (fun _ => true) true Try.f8.params.toList args.toList ds p := hA0
  rw [Try.params8] at hA hval hsz
  obtain ⟨v0, vs0, d0, ds0, p0, q0, hargs, rfl, rfl, h0, r0⟩ := trodAll_cons hA
  obtain ⟨rfl, rfl, rfl⟩ := trodAll_nil r0
  obtain rfl : args = #[v0] := by cases args; simp_all
  obtain ⟨rfl, rfl⟩ := trodVars_none hV
  have hwt := weights_of hsz (j := 0) (t := 35) rfl rfl
  have lt0 : ∀ x ∈ p0, x.block < W.heap.size := by obtain ⟨m, hm⟩ := h0; exact DataW.trod_lt m _ _ _ hm
  obtain ⟨cs, rfl, hcsz⟩ := okWide_struct Try.underlying35 (hval 0 35 v0 rfl rfl)
  have k0 := h0
  obtain ⟨fuel, hf⟩ := h0
  have hf' : DataW.trod enc Try.prog W 0 (fun _ => true) true fuel 35 cs.toList = some (d0, p0) := hf
  obtain ⟨a, hK, hI⟩ := Opens.go (d := (Kd.pair (Kd.pair Kd.string (Kd.pair (Kd.int .i64) (Kd.pair (Kd.int .i64) (Kd.int .i64)))) (Kd.pair (Kd.pair (Kd.int .i64) (Kd.pair (Kd.int .u32) (Kd.pair Kd.string Kd.bool))) (Kd.slice 38 k38)))) (opens_struct (d := (Kd.pair (Kd.pair Kd.string (Kd.pair (Kd.int .i64) (Kd.pair (Kd.int .i64) (Kd.int .i64)))) (Kd.pair (Kd.pair (Kd.int .i64) (Kd.pair (Kd.int .u32) (Kd.pair Kd.string Kd.bool))) (Kd.slice 38 k38)))) Try.underlying35 (by kernel_rfl) (opensF_cons rfl rfl (opens_struct (d := (Kd.pair Kd.string (Kd.pair (Kd.int .i64) (Kd.pair (Kd.int .i64) (Kd.int .i64))))) Try.underlying30 (by kernel_rfl) (opensF_cons rfl rfl (opens_string Try.underlying9 (by kernel_rfl)) (opensF_cons rfl rfl (opens_int Try.underlying3 (by kernel_rfl)) (opensF_cons rfl rfl (opens_int Try.underlying3 (by kernel_rfl)) (opensF_one rfl rfl (opens_int Try.underlying3 (by kernel_rfl))))))) (opensF_cons rfl rfl (opens_struct (d := (Kd.pair (Kd.int .i64) (Kd.pair (Kd.int .u32) (Kd.pair Kd.string Kd.bool)))) Try.underlying32 (by kernel_rfl) (opensF_cons rfl rfl (opens_int Try.underlying3 (by kernel_rfl)) (opensF_cons rfl rfl (opens_int Try.underlying23 (by kernel_rfl)) (opensF_cons rfl rfl (opens_string Try.underlying9 (by kernel_rfl)) (opensF_one rfl rfl (opens_bool Try.underlying4 (by kernel_rfl))))))) (opensF_one rfl rfl (opens_slice (B := 56) Try.underlying33 (by kernel_rfl) (opens_iso (opens_struct (d := (Kd.pair (Kd.int .i64) (Kd.pair (Kd.int .i64) (Kd.pair (Kd.int .i64) (Kd.pair (Kd.int .u32) (Kd.pair Kd.string Kd.bool)))))) Try.underlying38 (by kernel_rfl) (opensF_cons rfl rfl (opens_int Try.underlying3 (by kernel_rfl)) (opensF_cons rfl rfl (opens_int Try.underlying3 (by kernel_rfl)) (opensF_cons rfl rfl (opens_int Try.underlying3 (by kernel_rfl)) (opensF_cons rfl rfl (opens_int Try.underlying23 (by kernel_rfl)) (opensF_cons rfl rfl (opens_string Try.underlying9 (by kernel_rfl)) (opensF_one rfl rfl (opens_bool Try.underlying4 (by kernel_rfl))))))))) (fun x : S38 => (x.f0, x.f1, x.f2, x.f3, x.f4, x.f5)) (fun p => ⟨p.1, p.2.1, p.2.2.1, p.2.2.2.1, p.2.2.2.2.1, p.2.2.2.2.2⟩) (fun _ => rfl)) (by kernel_rfl)))))) hf' hwt
  obtain ⟨csl, hcsl⟩ : ∃ l, l = cs.toList := ⟨_, rfl⟩
  rw [← hcsl] at hK
  obtain ⟨_, _, rfl, ⟨_, _, rfl, rfl, ⟨_, _, rfl, rfl, ⟨_, _, rfl, rfl, rfl⟩⟩⟩, ⟨_, _, rfl, ⟨_, _, rfl, rfl, ⟨_, _, rfl, rfl, ⟨_, _, rfl, rfl, rfl⟩⟩⟩, ⟨A0, c0, rfl, hc0, hr0⟩⟩⟩ := hK
  obtain rfl : cs = #[.string a.1.1, .int .i64 a.1.2.1, .int .i64 a.1.2.2.1, .int .i64 a.1.2.2.2, .int .i64 a.2.1.1, .int .u32 a.2.1.2.1, .string a.2.1.2.2.1, .bool a.2.1.2.2.2, .slice A0 a.2.2.length c0] := by cases cs; simpa using hcsl.symm
  obtain ⟨⟨i0, i1, i2, i3⟩, ⟨i4, i5, i6, i7⟩, i8⟩ := hI
  clear hA0 hval0 hsz0 hsz
  refine (PStreamExact.chunks_walk _ rfl W (PStreamExact.onlyP 3 a.1.1 a.1.2.1 a.1.2.2.1 a.1.2.2.2 a.2.1.1 a.2.1.2.1 a.2.1.2.2.1 a.2.1.2.2.2 A0 c0 a.2.2 W hr0 hc0 (by have := i8.1; omega) (fun x hx => (i8.2 x hx).2.2.2.2.1) i0 i6)).mono fun e W' ⟨he, bel0⟩ => ?_
  have bel : Below W.heap.size W W' := by first | exact bel0 | exact bel0.below
  subst he
  exact ⟨_, rfl, _, _, _, [], _, [], hW', trodAll_mk1 (shut_bool Try.underlying4 _), (trodAll_cons_mk (Below.trod laidOut (by kernel_rfl) (of_decide_eq_true (by kernel_rfl)) k0 bel lt0) trodAll_mk0), rfl, bel.frame _, fun h => by cases h⟩
theorem over : Rows.streamChunksRow.holds Try.pinned (OpenSpec.ofChange Rows.streamChunksSpec) :=
  OpenClaim.holds_of_wide 8 Try.f8 rfl rfl rfl rfl rfl rfl rfl ⟨rfl, rfl, rfl, rfl, rfl⟩ rfl rfl rfl rfl rfl (by kernel_rfl) Try.func8 (by kernel_rfl)
    (of_decide_eq_true (by kernel_rfl)) (by unfold Func.isWrapper; first | (rw [if_pos (by decide +kernel)]; kernel_rfl) | (rw [if_neg (by decide +kernel)]; exact ⟨rfl, rfl⟩))
    (fun os started H enc _ => lifted os started H enc)
theorem proved : Rows.StreamChunksSaid := over
#print axioms proved
end Go.Proofs.Ytbadcpaopdbgnaa.streamChunks
namespace Go.Proofs.Ytbadcpaopdbgnaa
/-- The row, under a short name, for the claim. -/
theorem streamChunks_holds : Rows.StreamChunksSaid := streamChunks.proved
end Go.Proofs.Ytbadcpaopdbgnaa
