/-
  The statements StreamAcks, StreamChunks, StreamTakes: each is StreamExact of a script of one kind of calls.
-/
import Derived.Test.YtbadcpaopdbgnaaOnly
import Derived.Test.YtbadcpaopdbgnaaPStreamExactx8
import Derived.Test.YtbadcpaopdbgnaaPureStreamExact
namespace Go.Proofs.Ytbadcpaopdbgnaa.PStreamExact
open Go.RowKit Go.Proofs.YtbadcpaopdbgnaaW.PrintWords Go.Proofs.YtbadcpaopdbgnaaW.PrintLast Go.Proofs.YtbadcpaopdbgnaaW.PrintMore
set_option linter.unusedVariables false
set_option linter.unusedSimpArgs false

set_option maxHeartbeats 8000000 in
set_option maxRecDepth 100000 in
theorem only_heavy (x1 : Int) (V : Array Value) (hV : V.size = 9) (w : World)
    (hH : ∀ W : World, W = w.alloc (.cells V 35) → Calls Try.prog 14 #[.agg V] W fun e w' => e = .returned (.bool true) ∧ Below W.heap.size W w') :
    Calls Try.prog 33 #[.agg V, .int .i64 x1] w fun e w' => e = .returned (.bool true) ∧ Below w.heap.size w w' := by
  obtain ⟨l, rfl⟩ : ∃ l : List Value, V = l.toArray := ⟨V.toList, by simp⟩
  match l, hV with
  | [p0, p1, p2, p3, p4, p5, p6, p7, p8], _ =>
    have HH := Aside0.mk hH
    clear hH
    go_enter Try.func33, Try.ntmps33
    go_wp2_with (first | (go_at_call 14; refine (HH.out _ rfl).mono ?_; rintro e w1 ⟨rfl, hb⟩; have HB1 := Aside0.mk hb; clear hb))
    go_ret
    exact ⟨rfl, ((Below.refl _ w).alloc (Nat.le_refl _) _).trans (HB1.out.mono (by simp))⟩

theorem only_calls (x1 : Int) (p0 : ByteArray) (p1 p2 p3 p4 p5 : Int) (p6 : ByteArray) (p7 : Bool) (A0 : Option Addr) (c0 : Nat) (L : List S38) (w : World) (hr0 : Kd.C k38 w A0 L.length L) (hc0 : L.length ≤ c0) (hL : L.length ≤ 140737488351232) (hz : ∀ x ∈ L, x.f4.size ≤ 140737488351232)
    (h0 : p0.size ≤ 140737488351232) (h6 : p6.size ≤ 140737488351232) :
    Calls Try.prog 33 #[.agg #[.string p0, .int .i64 p1, .int .i64 p2, .int .i64 p3, .int .i64 p4, .int .u32 p5, .string p6, .bool p7, .slice A0 L.length c0], .int .i64 x1] w fun e w' => e = .returned (.bool true) ∧ Below w.heap.size w w' := by
  obtain ⟨b, hb, hn⟩ := PureStreamExact.heavy_eq L hL hz p0 p1 p2 p3 p4 p5 p6 p7 h0 h6 (L.length + 1) (by omega)
  cases b with
  | true =>
    refine only_heavy x1 _ rfl w fun W hW => ?_
    exact (thresherlaw20_heavy.calls (L.length + 1) p0 p1 p2 p3 p4 p5 p6 p7 A0 c0 L true W (Kd.C_below hr0 (by rw [hW]; exact (Below.refl _ w).alloc (Nat.le_refl _) _)) hc0 hb)
  | false =>
    obtain ⟨-, -, hl⟩ := hn rfl
    exact only_walk x1 p0 p1 p2 p3 p4 p5 p6 p7 A0 c0 L w hr0 hc0 hl hz
      (fun W hC => thresherlaw20_heavy.calls (L.length + 1) p0 p1 p2 p3 p4 p5 p6 p7 A0 c0 L false W hC hc0 hb)
      (fun W A c M hC hc hM hMz => thresherlaw20_StreamExact.calls (M.length + 400000) p0 p1 p2 p3 p4 p5 p6 p7 A c M true W hC hc (PureStreamExact.exact_all M (by omega) hMz p0 p1 p2 p3 p4 p5 p6 p7 h0 h6 _ (Nat.le_refl _)))

/-- What each of the three laws' own function is told of 'only'. -/
def OnlyP (V : Array Value) (x1 : Int) (w : World) : Prop := ∀ W : World, W = w.alloc (.cells V 35) → Calls Try.prog 33 #[.agg V, .int .i64 x1] W fun e w' => e = .returned (.bool true) ∧ Below W.heap.size W w'
set_option maxHeartbeats 8000000 in
set_option maxRecDepth 100000 in
theorem acks_walk (V : Array Value) (hV : V.size = 9) (w : World) (hH : OnlyP V 2 w) : Calls Try.prog 7 #[.agg V] w fun e w' => e = .returned (.bool true) ∧ Below w.heap.size w w' := by
  obtain ⟨l, rfl⟩ : ∃ l : List Value, V = l.toArray := ⟨V.toList, by simp⟩
  match l, hV with
  | [p0, p1, p2, p3, p4, p5, p6, p7, p8], _ =>
    have HH := Aside0.mk hH
    clear hH
    go_enter Try.func7, Try.ntmps7
    go_wp2_with (first | (go_at_call 33; refine (HH.out _ rfl).mono ?_; rintro e w1 ⟨rfl, hb⟩; have HB1 := Aside0.mk hb; clear hb))
    go_ret
    exact ⟨rfl, ((Below.refl _ w).alloc (Nat.le_refl _) _).trans (HB1.out.mono (by simp))⟩
set_option maxHeartbeats 8000000 in
set_option maxRecDepth 100000 in
theorem chunks_walk (V : Array Value) (hV : V.size = 9) (w : World) (hH : OnlyP V 3 w) : Calls Try.prog 8 #[.agg V] w fun e w' => e = .returned (.bool true) ∧ Below w.heap.size w w' := by
  obtain ⟨l, rfl⟩ : ∃ l : List Value, V = l.toArray := ⟨V.toList, by simp⟩
  match l, hV with
  | [p0, p1, p2, p3, p4, p5, p6, p7, p8], _ =>
    have HH := Aside0.mk hH
    clear hH
    go_enter Try.func8, Try.ntmps8
    go_wp2_with (first | (go_at_call 33; refine (HH.out _ rfl).mono ?_; rintro e w1 ⟨rfl, hb⟩; have HB1 := Aside0.mk hb; clear hb))
    go_ret
    exact ⟨rfl, ((Below.refl _ w).alloc (Nat.le_refl _) _).trans (HB1.out.mono (by simp))⟩
set_option maxHeartbeats 8000000 in
set_option maxRecDepth 100000 in
theorem takes_walk (V : Array Value) (hV : V.size = 9) (w : World) (hH : OnlyP V 5 w) : Calls Try.prog 9 #[.agg V] w fun e w' => e = .returned (.bool true) ∧ Below w.heap.size w w' := by
  obtain ⟨l, rfl⟩ : ∃ l : List Value, V = l.toArray := ⟨V.toList, by simp⟩
  match l, hV with
  | [p0, p1, p2, p3, p4, p5, p6, p7, p8], _ =>
    have HH := Aside0.mk hH
    clear hH
    go_enter Try.func9, Try.ntmps9
    go_wp2_with (first | (go_at_call 33; refine (HH.out _ rfl).mono ?_; rintro e w1 ⟨rfl, hb⟩; have HB1 := Aside0.mk hb; clear hb))
    go_ret
    exact ⟨rfl, ((Below.refl _ w).alloc (Nat.le_refl _) _).trans (HB1.out.mono (by simp))⟩
theorem onlyP (x1 : Int) (p0 : ByteArray) (p1 p2 p3 p4 p5 : Int) (p6 : ByteArray) (p7 : Bool) (A0 : Option Addr) (c0 : Nat) (L : List S38) (w : World) (hr0 : Kd.C k38 w A0 L.length L) (hc0 : L.length ≤ c0) (hL : L.length ≤ 140737488351232) (hz : ∀ x ∈ L, x.f4.size ≤ 140737488351232)
    (h0 : p0.size ≤ 140737488351232) (h6 : p6.size ≤ 140737488351232) : OnlyP #[.string p0, .int .i64 p1, .int .i64 p2, .int .i64 p3, .int .i64 p4, .int .u32 p5, .string p6, .bool p7, .slice A0 L.length c0] x1 w :=
  fun W hW => only_calls x1 p0 p1 p2 p3 p4 p5 p6 p7 A0 c0 L W (Kd.C_below hr0 (by rw [hW]; exact (Below.refl _ w).alloc (Nat.le_refl _) _)) hc0 hL hz h0 h6
end Go.Proofs.Ytbadcpaopdbgnaa.PStreamExact
