/-
  Walks over package lang, the first part: its words, which word a text is, which op it is, where ops come.
-/
import Derived.Test.YtbadcpaopdbgnaaDoorShelf
import Derived.Lib.SmallJoins
import Derived.Lib.AppendIntMem
import Derived.WalkKit
import Derived.BigQuiet
import Derived.Deep.LoopGhost
import Derived.Deep.QuietTactic
import Derived.Deep.DeepCutAuto
import Derived.Deep.CutBlock
import Derived.Deep.DeepMust
import Derived.StillTailTactics
import Derived.Below
import Derived.Laws.AppendOwn
import Derived.Maps.AppendAt
import Derived.OwnWalk
import Derived.KernelRfl
namespace Go.Proofs.YtbadcpaopdbgnaaDoor.Lang
open Go.RowKit Go.Shelf
set_option linter.unusedVariables false
set_option linter.unusedSimpArgs false

/-- A fact that the walk does not look at. -/
structure Aside (p : Prop) : Prop where mk :: (out : p)

theorem seq_true {a b : ByteArray} (h : a = b) : (a.toList == b.toList) = true := by subst h; exact beq_self_eq_true _
theorem seq_false {a b : ByteArray} (h : a ≠ b) : (a.toList == b.toList) = false := by
  rw [beq_eq_false_iff_ne]
  intro e
  rw [ByteArray.toList_eq, ByteArray.toList_eq] at e
  apply h
  cases a with | mk x => cases b with | mk y => exact congrArg ByteArray.mk (by cases x; cases y; simpa using e)

/-- What of the library's own variables the walks ask. -/
structure Laid (w : World) : Prop where
  sp : Lib.TabIs Tryd.prog w "strings.asciiSpace" .u8 Lib.asciiSpaceTab
  pw : Lib.TabIs Tryd.prog w "internal/strconv.uint64pow10" .u64 Lib.pow10Tab
  es : ∃ tp p, w.var? Tryd.prog "strconv.ErrSyntax" = some #[.iface tp p]
  er : ∃ tp p, w.var? Tryd.prog "strconv.ErrRange" = some #[.iface tp p]
theorem Laid.below {w w' : World} (h : Laid w) (hb : Below w.heap.size w w') : Laid w' := by
  obtain ⟨h1, h2, ⟨t3, p3, h3⟩, ⟨t4, p4, h4⟩⟩ := h
  exact ⟨Joins.var_stays (g := 0) (by kernel_rfl) h1 hb (Nat.le_refl _), Joins.var_stays (g := 2) (by kernel_rfl) h2 hb (Nat.le_refl _),
    ⟨t3, p3, Joins.var_stays (g := 4) (by kernel_rfl) h3 hb (Nat.le_refl _)⟩, ⟨t4, p4, Joins.var_stays (g := 5) (by kernel_rfl) h4 hb (Nat.le_refl _)⟩⟩

def text : List UInt8 := [97, 32, 108, 101, 110, 32, 118, 32, 43, 32, 45, 32, 42, 32, 47, 32, 37, 32, 38, 32, 124, 32, 94, 32, 60, 60, 32, 62, 62, 32, 62, 62, 62, 32, 60, 32, 61, 32, 110, 111, 116, 32, 117, 56, 32, 117, 49, 54, 32, 117, 51, 50, 32, 115, 56, 32, 115, 49, 54, 32, 115, 51, 50, 32, 100, 117, 112, 32, 115, 119, 97, 112, 32, 112, 111, 112, 32, 105, 102, 32, 114, 101, 112, 32, 101, 109, 105, 116]
def wordsL : List (List UInt8) := [[97], [108, 101, 110], [118], [43], [45], [42], [47], [37], [38], [124], [94], [60, 60], [62, 62], [62, 62, 62], [60], [61], [110, 111, 116], [117, 56], [117, 49, 54], [117, 51, 50], [115, 56], [115, 49, 54], [115, 51, 50], [100, 117, 112], [115, 119, 97, 112], [112, 111, 112], [105, 102], [114, 101, 112], [101, 109, 105, 116]]
def wordsB : List ByteArray := wordsL.map fun l => ⟨l.toArray⟩
theorem fields_text : Lib.fields text = wordsL := by decide +kernel
theorem ascii_text : ∀ (j : Nat) (b : UInt8), text[j]? = some b → b.toNat < 128 := by
  intro j b h
  have : ∀ b ∈ text, b.toNat < 128 := by decide +kernel
  exact this b (List.mem_of_getElem? h)
theorem wordsB_length : wordsB.length = 29 := rfl

/-- What 'words()' tells: a new row that holds the words. -/
theorem words_calls (w : World) (hL : Laid w) : Calls Tryd.prog 42 #[] w fun e w' => e = .returned (.slice (some ⟨w.heap.size, 0, none⟩) 29 29) ∧ w' = w.alloc (.cells (wordsB.map Value.string).toArray 9) := by
  have hsp := hL.sp
  have hc := Tryd.strings_Fields ⟨text.toArray⟩ w (by decide) (fun j b h => ascii_text j b (by simpa using h)) hsp
  have e1 : Lib.fields (⟨text.toArray⟩ : ByteArray).data.toList = wordsL := by rw [← fields_text]
  rw [e1] at hc
  go_enter Tryd.func42, Tryd.ntmps42
  go_wp2_with (first | (go_at_call 48; refine hc.mono ?_; rintro e w' ⟨rfl, rfl⟩))
  go_ret
  exact ⟨rfl, rfl⟩

/-- Which word a text is. -/
def kindOf (s : ByteArray) : Option Nat := wordsB.findIdx? (fun x => decide (x = s))
theorem kindOf_some {s : ByteArray} {j : Nat} (hj : j < 29) (h : wordsB[j]'hj = s) (hb : ∀ i, (hi : i < j) → wordsB[i]'(by rw [wordsB_length]; omega) ≠ s) : kindOf s = some j := by
  unfold kindOf
  rw [List.findIdx?_eq_some_iff_getElem]
  exact ⟨hj, by simpa using h, fun i hi => by simpa using hb i hi⟩
theorem kindOf_none {s : ByteArray} (hb : ∀ i, (hi : i < 29) → wordsB[i]'hi ≠ s) : kindOf s = none := by
  unfold kindOf
  rw [List.findIdx?_eq_none_iff]
  intro x hx
  obtain ⟨i, hi, rfl⟩ := List.getElem_of_mem hx
  simpa using hb i hi

def kindV (s : ByteArray) : Value := .tuple #[.int .i64 (match kindOf s with | some i => 2 + (i : Int) | none => 0), .bool (kindOf s).isSome]
theorem kindV_some {s : ByteArray} {j : Nat} (h : kindOf s = some j) : kindV s = .tuple #[.int .i64 (2 + (j : Int)), .bool true] := by simp [kindV, h]
theorem kindV_none {s : ByteArray} (h : kindOf s = none) : kindV s = .tuple #[.int .i64 0, .bool false] := by simp [kindV, h]
set_option maxHeartbeats 4000000 in
theorem kind_calls (s : ByteArray) (w : World) (hL : Laid w) : Calls Tryd.prog 43 #[.string s] w fun e w' => e = .returned (kindV s) ∧ Below w.heap.size w w' := by
  have HL := Aside.mk hL
  clear hL
  go_enter Tryd.func43, Tryd.ntmps43
  go_wp2_with (first | (go_at_call 42; refine (words_calls _ HL.out).mono ?_; rintro e w' ⟨rfl, rfl⟩))
  have hcell : ∀ j : Nat, (hj : j < 29) → (w.alloc (.cells (wordsB.map Value.string).toArray 9)).cell? ⟨w.heap.size, j, none⟩ = some (.string (wordsB[j]'hj)) := fun j hj => by
    have hj' : j < wordsB.length := hj
    simp [World.cell?, World.alloc, -World.alloc_eq, List.getElem?_map, hj']
    rfl
  have hbel : Below w.heap.size w (w.alloc (.cells (wordsB.map Value.string).toArray 9)) := (Below.refl _ w).alloc (Nat.le_refl _) _
  have HC := Aside.mk hcell
  clear hcell
  generalize w.alloc (.cells (wordsB.map Value.string).toArray 9) = W at HC hbel ⊢
  have HB := Aside.mk hbel
  clear hbel
  generalize w.heap.size = b at HC ⊢
  go_loopg [8] 30 (fun kq v8 w' => ∃ (j : Nat), v8 = .int .i64 (j : Int) ∧ w' = W ∧ Aside (j + kq = 30 ∧ j ≤ 29 ∧ ∀ i, (hi : i < 29) → i < j → wordsB[i]'hi ≠ s))
  case atStart => exact ⟨0, rfl, rfl, ⟨rfl, by omega, fun i _ h => absurd h (by omega)⟩⟩
  case round =>
    obtain ⟨j, rfl, rfl, HI⟩ := hrel
    cases gk with
    | zero => have := HI.out; omega
    | succ k1 =>
      by_cases h1 : (j : Int) < 29
      · have h1b := decide_eq_true h1
        have hj : j < 29 := by omega
        obtain ⟨x, hx⟩ : ∃ x, x = wordsB[j]'hj := ⟨_, rfl⟩
        have hc := HC.out j hj
        rw [← hx] at hc
        have HX := Aside.mk hx
        clear hx
        have p1 := eq_true (show 0 ≤ (j : Int) by omega)
        have q1 := eq_true h1
        by_cases h2 : x = s
        · have h2b := seq_true h2
          have HK := Aside.mk (kindV_some (kindOf_some hj (HX.out ▸ h2) (fun i hi => HI.out.2.2 i (by omega) hi)))
          clear h2
          go_wp2
          go_ret2
          exact ⟨by rw [HK.out]; rfl, HB.out⟩
        · have h2b := seq_false h2
          have hn : ∀ i, (hi : i < 29) → i < j + 1 → wordsB[i]'hi ≠ s := fun i hi h => by
            by_cases e : i = j
            · subst e
              rw [← HX.out]
              exact h2
            · exact HI.out.2.2 i hi (by omega)
          have HN := Aside.mk hn
          clear hn h2
          go_wp2
          go_roundg k1
          case measure => omega
          case rel => exact ⟨j + 1, by simp; done, rfl, ⟨by have := HI.out; omega, by omega, HN.out⟩⟩
      · have h1b := decide_eq_false h1
        have HK := Aside.mk (kindV_none (kindOf_none (fun i hi => HI.out.2.2 i hi (by omega))))
        go_wp2
        go_ret2
        exact ⟨by rw [HK.out]; rfl, HB.out⟩
end Go.Proofs.YtbadcpaopdbgnaaDoor.Lang
