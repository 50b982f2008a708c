/-
  The ops in memory: what a slice of ops holds, and which blocks are its own.
-/
import Derived.Test.YtbadcpaopdbgnaaDoorLangB
namespace Go.Proofs.YtbadcpaopdbgnaaDoor.Lang
open Go.RowKit Go.Shelf
set_option linter.unusedVariables false
set_option linter.unusedSimpArgs false

/-- Ops: each with its kind, its number, its block. -/
inductive Ops where
  | nil
  | cons (k n : Int) (b r : Ops)
deriving DecidableEq, Repr
namespace Ops
def len : Ops → Nat
  | nil => 0
  | cons _ _ _ r => r.len + 1
def snoc : Ops → Int → Int → Ops → Ops
  | nil, k, n, b => cons k n b nil
  | cons k' n' b' r, k, n, b => cons k' n' b' (r.snoc k n b)
theorem len_snoc : ∀ (l : Ops) (k n : Int) (b : Ops), (l.snoc k n b).len = l.len + 1
  | nil, _, _, _ => rfl
  | cons _ _ _ r, k, n, b => congrArg (· + 1) (r.len_snoc k n b)
end Ops

/-- A slice's own block. -/
def bl (v : Value) : List Nat := v.ownBlock.toList
theorem mem_bl {v : Value} {g : Nat} : g ∈ bl v ↔ v.ownBlock = some g := by unfold bl; simp

theorem own_frame {w w' : World} {B e size n : Nat} {v : Value} {xs : List Value} (h : w.ownsRow B e size v n xs) (hf : ∀ g ∈ bl v, w'.heap[g]? = w.heap[g]?) : w'.ownsRow B e size v n xs := by
  refine ⟨h.1, ?_⟩
  rcases h.2 with h0 | ⟨g, cap, cur, hv, hb, hg, rest⟩
  · exact .inl h0
  · exact .inr ⟨g, cap, cur, hv, hb, by rw [hf g (mem_bl.mpr (by rw [hv]; rfl))]; exact hg, rest⟩
theorem own_mem {w : World} {B e size n : Nat} {v : Value} {xs : List Value} (h : w.ownsRow B e size v n xs) : ∀ g ∈ bl v, B ≤ g ∧ g < w.heap.size :=
  fun g hg => h.lt g (mem_bl.mp hg)

/-- The cells of a row of ops, and the blocks that lie behind them. -/
def OpsAt (w : World) (B : Nat) : Ops → List Value → List Nat → Prop
  | .nil, xs, F => xs = [] ∧ F = []
  | .cons k n b r, xs, F => ∃ v ys xs' Fb Fr, xs = .int .i64 k :: .int .i64 n :: v :: xs' ∧ F = (bl v ++ Fb) ++ Fr ∧ w.ownsRow B 62 3 v b.len ys ∧ OpsAt w B b ys Fb ∧ OpsAt w B r xs' Fr
/-- A slice that holds ops. -/
def SliceAt (w : World) (B : Nat) (l : Ops) (v : Value) (F : List Nat) : Prop :=
  ∃ xs F', F = bl v ++ F' ∧ w.ownsRow B 62 3 v l.len xs ∧ OpsAt w B l xs F'

theorem OpsAt.length {w : World} {B : Nat} : ∀ {l : Ops} {xs : List Value} {F : List Nat}, OpsAt w B l xs F → xs.length = l.len * 3
  | .nil, _, _, h => by rw [h.1]; rfl
  | .cons k n b r, _, _, h => by
    obtain ⟨v, ys, xs', Fb, Fr, rfl, -, -, -, hr⟩ := h
    have := OpsAt.length hr
    simp only [List.length_cons, Ops.len]
    omega
theorem OpsAt.frame {w w' : World} {B : Nat} : ∀ {l : Ops} {xs : List Value} {F : List Nat}, OpsAt w B l xs F → (∀ g ∈ F, w'.heap[g]? = w.heap[g]?) → OpsAt w' B l xs F
  | .nil, _, _, h, _ => h
  | .cons k n b r, _, _, h, hf => by
    obtain ⟨v, ys, xs', Fb, Fr, rfl, rfl, ho, hb, hr⟩ := h
    exact ⟨v, ys, xs', Fb, Fr, rfl, rfl, own_frame ho (fun g hg => hf g (by simp [hg])), hb.frame (fun g hg => hf g (by simp [hg])), hr.frame (fun g hg => hf g (by simp [hg]))⟩
theorem OpsAt.mem {w : World} {B : Nat} : ∀ {l : Ops} {xs : List Value} {F : List Nat}, OpsAt w B l xs F → ∀ g ∈ F, B ≤ g ∧ g < w.heap.size
  | .nil, _, _, h, g, hg => by rw [h.2] at hg; cases hg
  | .cons k n b r, _, _, h, g, hg => by
    obtain ⟨v, ys, xs', Fb, Fr, rfl, rfl, ho, hb, hr⟩ := h
    simp only [List.mem_append] at hg
    rcases hg with (hg | hg) | hg
    · exact own_mem ho g hg
    · exact hb.mem g hg
    · exact hr.mem g hg
theorem OpsAt.snoc {w : World} {B : Nat} {k n : Int} {b : Ops} {v : Value} {Fv : List Nat} (hv : SliceAt w B b v Fv) : ∀ {l : Ops} {xs : List Value} {F : List Nat}, OpsAt w B l xs F →
    OpsAt w B (l.snoc k n b) (xs ++ [.int .i64 k, .int .i64 n, v]) (F ++ Fv)
  | .nil, _, _, h => by
    obtain ⟨rfl, rfl⟩ := h
    obtain ⟨ys, F', rfl, ho, hb⟩ := hv
    exact ⟨v, ys, [], F', [], rfl, by simp, ho, hb, rfl, rfl⟩
  | .cons k' n' b' r, _, _, h => by
    obtain ⟨v', ys, xs', Fb, Fr, rfl, rfl, ho, hb, hr⟩ := h
    exact ⟨v', ys, _, Fb, _, rfl, by simp, ho, hb, hr.snoc hv⟩
theorem SliceAt.frame {w w' : World} {B : Nat} {l : Ops} {v : Value} {F : List Nat} (h : SliceAt w B l v F) (hf : ∀ g ∈ F, w'.heap[g]? = w.heap[g]?) : SliceAt w' B l v F := by
  obtain ⟨xs, F', rfl, ho, hb⟩ := h
  exact ⟨xs, F', rfl, own_frame ho (fun g hg => hf g (by simp [hg])), hb.frame (fun g hg => hf g (by simp [hg]))⟩
theorem SliceAt.mem {w : World} {B : Nat} {l : Ops} {v : Value} {F : List Nat} (h : SliceAt w B l v F) : ∀ g ∈ F, B ≤ g ∧ g < w.heap.size := by
  obtain ⟨xs, F', rfl, ho, hb⟩ := h
  intro g hg
  rcases List.mem_append.mp hg with hg | hg
  · exact own_mem ho g hg
  · exact hb.mem g hg
theorem SliceAt.nil (w : World) (B : Nat) : SliceAt w B .nil (.slice none 0 0) [] := ⟨[], [], rfl, World.ownsRow_nil w B 62 3, rfl, rfl⟩

/-- The open blocks: a row of slices. -/
def StackAt (w : World) (B : Nat) : List Ops → List Value → List Nat → Prop
  | [], vs, F => vs = [] ∧ F = []
  | l :: ls, vs, F => ∃ v vs' F1 F2, vs = v :: vs' ∧ F = F1 ++ F2 ∧ SliceAt w B l v F1 ∧ StackAt w B ls vs' F2
theorem StackAt.length {w : World} {B : Nat} : ∀ {ls : List Ops} {vs : List Value} {F : List Nat}, StackAt w B ls vs F → vs.length = ls.length
  | [], _, _, h => by rw [h.1]; rfl
  | l :: ls, _, _, h => by
    obtain ⟨v, vs', F1, F2, rfl, -, -, h2⟩ := h
    simp [h2.length]
theorem StackAt.frame {w w' : World} {B : Nat} : ∀ {ls : List Ops} {vs : List Value} {F : List Nat}, StackAt w B ls vs F → (∀ g ∈ F, w'.heap[g]? = w.heap[g]?) → StackAt w' B ls vs F
  | [], _, _, h, _ => h
  | l :: ls, _, _, h, hf => by
    obtain ⟨v, vs', F1, F2, rfl, rfl, h1, h2⟩ := h
    exact ⟨v, vs', F1, F2, rfl, rfl, h1.frame (fun g hg => hf g (by simp [hg])), h2.frame (fun g hg => hf g (by simp [hg]))⟩
theorem StackAt.mem {w : World} {B : Nat} : ∀ {ls : List Ops} {vs : List Value} {F : List Nat}, StackAt w B ls vs F → ∀ g ∈ F, B ≤ g ∧ g < w.heap.size
  | [], _, _, h, g, hg => by rw [h.2] at hg; cases hg
  | l :: ls, _, _, h, g, hg => by
    obtain ⟨v, vs', F1, F2, rfl, rfl, h1, h2⟩ := h
    rcases List.mem_append.mp hg with hg | hg
    · exact h1.mem g hg
    · exact h2.mem g hg
theorem StackAt.snoc {w : World} {B : Nat} {l : Ops} {v : Value} {Fv : List Nat} (hv : SliceAt w B l v Fv) : ∀ {ls : List Ops} {vs : List Value} {F : List Nat}, StackAt w B ls vs F → StackAt w B (ls ++ [l]) (vs ++ [v]) (F ++ Fv)
  | [], _, _, h => by
    obtain ⟨rfl, rfl⟩ := h
    exact ⟨v, [], Fv, [], rfl, by simp, hv, rfl, rfl⟩
  | l' :: ls, _, _, h => by
    obtain ⟨v', vs', F1, F2, rfl, rfl, h1, h2⟩ := h
    exact ⟨v', _, F1, _, rfl, by simp, h1, h2.snoc hv⟩
/-- The last one, taken off. -/
theorem StackAt.unsnoc {w : World} {B : Nat} {l : Ops} : ∀ {ls : List Ops} {vs : List Value} {F : List Nat}, StackAt w B (ls ++ [l]) vs F → ∃ v vs' F1 F2, vs = vs' ++ [v] ∧ F = F1 ++ F2 ∧ StackAt w B ls vs' F1 ∧ SliceAt w B l v F2
  | [], _, _, h => by
    obtain ⟨v, vs', F1, F2, rfl, rfl, h1, rfl, rfl⟩ := h
    exact ⟨v, [], [], F1, rfl, by simp, ⟨rfl, rfl⟩, h1⟩
  | l' :: ls, _, _, h => by
    obtain ⟨v', vs', F1, F2, rfl, rfl, h1, h2⟩ := h
    obtain ⟨v, vs'', G1, G2, rfl, rfl, h3, h4⟩ := h2.unsnoc
    exact ⟨v, v' :: vs'', F1 ++ G1, G2, rfl, by simp, ⟨v', vs'', F1, G1, rfl, rfl, h1, h3⟩, h4⟩

/-- The ops that wait for their blocks. -/
def headCells : List (Int × Int) → List Value
  | [] => []
  | p :: r => .int .i64 p.1 :: .int .i64 p.2 :: .slice none 0 0 :: headCells r
theorem headCells_length : ∀ l, (headCells l).length = l.length * 3
  | [] => rfl
  | p :: r => by simp only [headCells, List.length_cons, headCells_length r]; omega
theorem headCells_append : ∀ l m, headCells (l ++ m) = headCells l ++ headCells m
  | [], _ => rfl
  | p :: r, m => by simp [headCells, headCells_append r m]

/-- The parser, as it lies at pa. -/
structure PS (w : World) (B pa : Nat) (opens : List Ops) (heads : List (Int × Int)) (waits : Bool) (many : Nat) : Prop where mk ::
  out : ∃ vo vh vs F, w.heap[pa]? = some (.cells #[vo, vh, .bool waits, .int .i64 (many : Int)] 52 (0, 0)) ∧ B ≤ pa ∧ w.ownsRow B 23 1 vo opens.length vs ∧ w.ownsRow B 62 3 vh heads.length (headCells heads) ∧
    StackAt w B opens vs F ∧ (pa :: (bl vo ++ (bl vh ++ F))).Nodup

/-- 'last': where the last of the open blocks' slices lies. -/
theorem last_calls (w : World) (pa g n c : Nat) (vh : Value) (waits : Value) (many : Value) (hp : w.heap[pa]? = some (.cells #[.slice (some ⟨g, 0, none⟩) (n + 1) c, vh, waits, many] 52 (0, 0))) (hn : n < 1000000) :
    Calls Tryd.prog 36 #[.pointer (some ⟨pa, 0, none⟩)] w fun e w' => e = .returned (.pointer (some ⟨g, n, none⟩)) ∧ ∃ q, w' = w.drewN q := by
  obtain ⟨c0, c1, c2, c3, f0, f1, f2, f3⟩ := blk4 hp
  clear hp
  have hw : IntKind.i64.wrap ((n : Int) + 1 - 1) = (n : Int) := by
    simp [IntKind.wrap, IntKind.signed, IntKind.bits]
    omega
  have p1 := eq_true (show 0 ≤ (n : Int) by omega)
  have q1 := eq_true (show (n : Int) < ((n + 1 : Nat) : Int) by omega)
  have q2 := eq_true (show (n : Int) < (n : Int) + 1 by omega)
  go_enter Tryd.func36, Tryd.ntmps36
  go_wp2
  go_quiet (fail)
  go_wp2
  go_ret
  exact ⟨rfl, _, rfl⟩
end Go.Proofs.YtbadcpaopdbgnaaDoor.Lang
