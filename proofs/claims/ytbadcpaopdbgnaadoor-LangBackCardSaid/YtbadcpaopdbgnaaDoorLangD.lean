/-
  Walks over package lang: a bracket.
-/
import Derived.Test.YtbadcpaopdbgnaaDoorLangC
namespace Go.Proofs.YtbadcpaopdbgnaaDoor.Lang
open Go.RowKit Go.Shelf
set_option linter.unusedVariables false
set_option linter.unusedSimpArgs false

theorem sc_false {s : ByteArray} {l : List UInt8} (h : s ≠ ⟨l.toArray⟩) : (s.toList == l) = false := by
  have := seq_false h
  rwa [ByteArray.toList_eq ⟨l.toArray⟩] at this

set_option maxRecDepth 100000 in
set_option maxHeartbeats 4000000 in
theorem bracket_bad1 (w : World) (pa : Nat) (vo vh many : Value) (waits : Bool) (s : ByteArray) (hp : w.heap[pa]? = some (.cells #[vo, vh, .bool waits, many] 52 (0, 0))) (hne : waits ≠ decide (s = ⟨#[91]⟩)) :
    Calls Tryd.prog 33 #[.pointer (some ⟨pa, 0, none⟩), .string s] w fun e w' => e = .returned (.int .i64 7) ∧ w' = w := by
  obtain ⟨c0, c1, c2, c3, f0, f1, f2, f3⟩ := blk4 hp
  clear hp
  by_cases hs : s = ⟨#[91]⟩
  · subst hs
    have hw : waits = false := by simpa using hne
    subst hw
    go_enter Tryd.func33, Tryd.ntmps33
    go_wp2
    go_ret
    exact ⟨rfl, rfl⟩
  · have hs1 := sc_false (l := [91]) hs
    have hw : waits = true := by simpa [hs] using hne
    subst hw
    clear hne hs
    go_enter Tryd.func33, Tryd.ntmps33
    go_wp2
    go_ret
    exact ⟨rfl, rfl⟩
set_option maxRecDepth 100000 in
set_option maxHeartbeats 4000000 in
/-- A bracket that opens where too many are open. -/
theorem bracket_deep (w : World) (pa n c : Nat) (A : Option Addr) (vh many : Value) (hp : w.heap[pa]? = some (.cells #[.slice A n c, vh, .bool true, many] 52 (0, 0))) (hn : 6 < n) :
    Calls Tryd.prog 33 #[.pointer (some ⟨pa, 0, none⟩), .string ⟨#[91]⟩] w fun e w' => e = .returned (.int .i64 2) ∧ w' = w := by
  obtain ⟨c0, c1, c2, c3, f0, f1, f2, f3⟩ := blk4 hp
  clear hp
  have h1 : decide ((6 : Int) < (n : Int)) = true := decide_eq_true (by omega)
  have h2 : decide (6 < n) = true := decide_eq_true (by omega)
  go_enter Tryd.func33, Tryd.ntmps33
  go_wp2
  go_ret
  exact ⟨rfl, rfl⟩
set_option maxRecDepth 100000 in
set_option maxHeartbeats 4000000 in
/-- One that closes where none is open. -/
theorem bracket_none (w : World) (pa c : Nat) (A : Option Addr) (vo many : Value) (s : ByteArray) (hs : s ≠ ⟨#[91]⟩) (hp : w.heap[pa]? = some (.cells #[vo, .slice A 0 c, .bool false, many] 52 (0, 0))) :
    Calls Tryd.prog 33 #[.pointer (some ⟨pa, 0, none⟩), .string s] w fun e w' => e = .returned (.int .i64 7) ∧ w' = w := by
  obtain ⟨c0, c1, c2, c3, f0, f1, f2, f3⟩ := blk4 hp
  clear hp
  have hs1 := sc_false (l := [91]) hs
  go_enter Tryd.func33, Tryd.ntmps33
  go_wp2
  go_ret
  exact ⟨rfl, rfl⟩

/-- What has turned lies in the blocks of S, or is new. -/
structure Upd (w w' : World) (S : List Nat) : Prop where
  os : w'.os = w.os
  tape : w'.tape = w.tape
  output : w'.output = w.output
  size : w.heap.size ≤ w'.heap.size
  block : ∀ g, g < w.heap.size → g ∉ S → w'.heap[g]? = w.heap[g]?
theorem Upd.refl (w : World) (S : List Nat) : Upd w w S := ⟨rfl, rfl, rfl, Nat.le_refl _, fun _ _ _ => rfl⟩
theorem Upd.trans {a b c : World} {S T : List Nat} (h : Upd a b S) (k : Upd b c T) (hT : ∀ g ∈ T, g < a.heap.size → g ∈ S) : Upd a c S :=
  ⟨k.os.trans h.os, k.tape.trans h.tape, k.output.trans h.output, Nat.le_trans h.size k.size, fun g hg hS => (k.block g (Nat.lt_of_lt_of_le hg h.size) (fun hgT => hS (hT g hgT hg))).trans (h.block g hg hS)⟩
theorem Upd.of_below {w w' : World} (h : Below w.heap.size w w') (S : List Nat) : Upd w w' S := ⟨h.os, h.tape, h.output, h.size, fun g hg _ => h.block g hg⟩
theorem Upd.of_grown {w w' : World} {row : Option Nat} {S : List Nat} (h : w.grownBy w' row) (hS : ∀ g, row = some g → g ∈ S) : Upd w w' S :=
  ⟨h.os, h.tape, h.output, h.size, fun g hg hgS => h.block g hg (fun e => hgS (hS g e.symm))⟩
theorem Upd.below {w w' : World} {S : List Nat} {B : Nat} (h : Upd w w' S) (hB : B ≤ w.heap.size) (hS : ∀ g ∈ S, B ≤ g) : Below B w w' :=
  ⟨h.os, h.tape, h.output, h.size, fun g hg => h.block g (Nat.lt_of_lt_of_le hg hB) (fun hgS => by have := hS g hgS; omega)⟩
theorem Upd.set {w : World} {p : Addr} {S : List Nat} (hS : p.block ∈ S) (v : Value) : Upd w (w.setCell p v) S :=
  ⟨rfl, rfl, rfl, by simp [World.setCell], fun g _ hgS => Below.heap_setCell w p v g (fun e => hgS (e ▸ hS))⟩
theorem Upd.alloc (w : World) (o : Obj) (S : List Nat) : Upd w (w.alloc o) S := Upd.of_below ((Below.refl _ w).alloc (Nat.le_refl _) o) S
theorem Upd.drewN (w : World) (q : Nat) (S : List Nat) : Upd w (w.drewN q) S := ⟨rfl, rfl, rfl, Nat.le_refl _, fun _ _ _ => rfl⟩

theorem own_slice {w : World} {B e size n : Nat} {v : Value} {xs : List Value} (h : w.ownsRow B e size v n xs) : ∃ A c, v = .slice A n c := by
  rcases h.2 with ⟨rfl, rfl⟩ | ⟨g, cap, cur, rfl, _⟩
  · exact ⟨_, _, rfl⟩
  · exact ⟨_, _, rfl⟩
theorem info23 : (Tryd.prog.info? 23).map (fun i => (i.zero, i.size, i.bytes)) = some (some (.slice none 0 0), 1, 24) := by kernel_rfl
theorem info62 : (Tryd.prog.info? 62).map (fun i => (i.zero, i.size, i.bytes)) = some (some (.agg #[.int .i64 0, .int .i64 0, .slice none 0 0]), 3, 40) := by kernel_rfl

set_option maxRecDepth 100000 in
set_option maxHeartbeats 4000000 in
/-- A bracket that opens. -/
theorem bracket_open (w : World) (B pa n : Nat) (vo vh many : Value) (vs : List Value) (hp : w.heap[pa]? = some (.cells #[vo, vh, .bool true, many] 52 (0, 0))) (hB : B ≤ w.heap.size) (hown : w.ownsRow B 23 1 vo n vs) (hn : n ≤ 6) (hpn : pa ∉ bl vo) :
    Calls Tryd.prog 33 #[.pointer (some ⟨pa, 0, none⟩), .string ⟨#[91]⟩] w fun e w' => e = .returned (.int .i64 0) ∧ ∃ vo', w'.heap[pa]? = some (.cells #[vo', vh, .bool false, many] 52 (0, 0)) ∧
      w'.ownsRow B 23 1 vo' (n + 1) (vs ++ [.slice none 0 0]) ∧ Upd w w' (pa :: bl vo) ∧ (vo'.ownBlock = vo.ownBlock ∨ ∃ g, vo'.ownBlock = some g ∧ w.heap.size ≤ g) := by
  have HP := Aside.mk hp
  obtain ⟨c0, c1, c2, c3, f0, f1, f2, f3⟩ := blk4 hp
  have hpl := blk_lt' hp
  clear hp
  obtain ⟨A, c, rfl⟩ := own_slice hown
  have HO := Aside.mk hown
  clear hown
  have h1 : decide ((6 : Int) < (n : Int)) = false := decide_eq_false (by omega)
  have h2 : decide (6 < n) = false := decide_eq_false (by omega)
  obtain ⟨i0, hi, hz0, hz1, hz2⟩ := info_parts info23
  have HI := Aside.mk hi
  clear hi
  go_enter Tryd.func33, Tryd.ntmps33
  go_wp2_with (first | (at_builtin; refine wpList_append_own_at _ rfl _ _ 50 rfl B 23 i0 (.slice none 0 0) 1 24 Tryd.underlying50 HI.out hz0 hz1 hz2 rfl (by decide) _ _ _ rfl (HO.out.alloc _) ⟨w.heap.size, 0, none⟩ 1 1 [.slice none 0 0] rfl rfl (cell_one_new _ _ _) (by simp [Value.oneCell']) (by unfold maxLen; omega) (by omega) (by simp; omega) ?_; go_must (intro v' w5 hown' hgrow hnil hloc; clear hnil; obtain ⟨A', c', rfl⟩ := own_slice hown'; have HN := Aside.mk hown'; have HG := Aside.mk (show (w.alloc (.cells #[.slice none 0 0] 23)).grownBy w5 (Value.slice A n c).ownBlock from hgrow); have HL := Aside.mk (show (Value.slice A' (n + 1) c').ownBlock = (Value.slice A n c).ownBlock ∨ (Value.slice A' (n + 1) c').ownBlock = some (w.alloc (.cells #[.slice none 0 0] 23)).heap.size from hloc); clear hown' hgrow hloc; have hp5 := (HG.out.block pa (by simp; omega) (fun e => hpn (mem_bl.mpr e.symm))).trans ((heap_alloc_old w _ hpl).trans HP.out); obtain ⟨c0, c1, c2, c3, f0, f1, f2, f3⟩ := blk4 hp5; have HP5 := Aside.mk hp5; clear hp5)))
  go_ret
  refine ⟨rfl, _, set_at (set_at HP5.out _) _, own_frame HN.out (fun g hg => ?_), ?_, ?_⟩
  · have hgp : g ≠ pa := fun e => by
      subst e
      rcases HL.out with h | h
      · exact hpn (mem_bl.mpr (h ▸ mem_bl.mp hg))
      · have := h ▸ mem_bl.mp hg
        simp at this
        omega
    rw [Below.heap_setCell _ _ _ _ hgp, Below.heap_setCell _ _ _ _ hgp]
  · have u1 := Upd.alloc w (.cells #[.slice none 0 0] 23) (pa :: bl (.slice A n c))
    have u2 := u1.trans (Upd.of_grown (S := pa :: bl (.slice A n c)) HG.out (fun g e => List.mem_cons_of_mem _ (mem_bl.mpr e))) (fun g hg _ => hg)
    exact (u2.trans (Upd.set (p := ⟨pa, 0, none⟩) (S := pa :: bl (.slice A n c)) (by simp) _) (fun g hg _ => hg)).trans (Upd.set (p := ⟨pa, 2, none⟩) (S := pa :: bl (.slice A n c)) (by simp) _) (fun g hg _ => hg)
  · rcases HL.out with h | h
    · exact .inl h
    · exact .inr ⟨_, h, by simp⟩
end Go.Proofs.YtbadcpaopdbgnaaDoor.Lang
