/-
  Walk: the page's own splitting of a text at spaces and ends of lines.
-/
import Derived.Test.YtbadcpaopdbgnaaDoorLangP
namespace Go.Proofs.YtbadcpaopdbgnaaDoor.Lang
open Go.RowKit Go.Shelf
set_option linter.unusedVariables false
set_option linter.unusedSimpArgs false

/-- What the loop has at byte i: the words so far, and the word that grows. -/
def splitStep (st : List ByteArray × List UInt8) (c : UInt8) : List ByteArray × List UInt8 :=
  if c = 32 ∨ c = 10 then (if st.2 = [] then (st.1, []) else (st.1 ++ [⟨st.2.toArray⟩], [])) else (st.1, st.2 ++ [c])
def splitAt (l : List UInt8) : List ByteArray × List UInt8 := l.foldl splitStep ([], [])
def splitEnd (st : List ByteArray × List UInt8) : List ByteArray := if st.2 = [] then st.1 else st.1 ++ [⟨st.2.toArray⟩]
def refSplit (s : ByteArray) : List ByteArray := splitEnd (splitAt s.data.toList)

theorem splitAt_snoc (l : List UInt8) (c : UInt8) : splitAt (l ++ [c]) = splitStep (splitAt l) c := by
  unfold splitAt
  rw [List.foldl_append]
  rfl

theorem info9 : (Tryd.prog.info? 9).map (fun i => (i.zero, i.size, i.bytes)) = some (some (.string ⟨#[]⟩), 1, 16) := by kernel_rfl
theorem step_str {ops : Array Oper} {o : Oper} {a : Act} {w : World} {K : Act → World → Prop} {Q : Exit → Act → World → Prop} {E : Prop} (W : World) (x0 : ByteArray)
    (hh : w.heap = W.heap.push (.cells #[.string x0] 9)) (hos : w.os = W.os) (htp : w.tape = W.tape) (hou : w.output = W.output) (hgd : o.guard = none) (s x : Operand)
    (ho : o.op = .call { callee := .builtin .append, args := #[s, x], argTypes := #[22, 22] }) (v1 : Value) (B m : Nat) (xs : List Value) (hs : a.eval s = v1) (hx : a.eval x = .slice (some ⟨W.heap.size, 0, none⟩) 1 1)
    (hown : W.ownsRow B 9 1 v1 m xs) (hm : m ≤ 1000000000000) (hB : B ≤ W.heap.size)
    (h : ∀ g cap w', w'.ownsRow B 9 1 (.slice (some ⟨g, 0, none⟩) (m + 1) cap) (m + 1) (xs ++ [.string x0]) → Upd W w' (bl v1) → (v1.ownBlock = some g ∨ W.heap.size ≤ g) → K (a.put o.dst (.slice (some ⟨g, 0, none⟩) (m + 1) cap)) w') :
    if Region.wanted o (yielded ops a.tmps) = true then Oper.wp Tryd.prog o a w K Q else E := by
  obtain ⟨i0, hi, hz0, hz1, hz2⟩ := info_parts info9
  have hold : ∀ g, g < W.heap.size → w.heap[g]? = W.heap[g]? := fun g hg => by rw [hh, Array.getElem?_push, if_neg (by omega)]
  have hnew : w.heap[W.heap.size]? = some (.cells #[.string x0] 9 (0, 0)) := by rw [hh]; simp
  have hsz : w.heap.size = W.heap.size + 1 := by rw [hh]; simp
  refine step_append_lies _ hgd s x 22 ho B 9 i0 (.string ⟨#[]⟩) 1 16 Tryd.underlying22 hi hz0 hz1 hz2 rfl (by decide) v1 m xs hs (own_frame hown (fun g hg => hold g (own_mem hown g hg).2)) ⟨W.heap.size, 0, none⟩ 1 1 [.string x0] hx rfl (World.news_of_block (cs := #[.string x0]) (t := 9) (fr := (0, 0)) hnew) (by intro u hu; simp only [List.mem_cons, List.not_mem_nil, or_false] at hu; subst hu; rfl) (by omega) (by unfold maxLen; omega) (by omega) (by omega) (W.heap.size + 1) hsz ?_
  intro g cap w' hown' hgrow hloc _
  refine h g cap w' hown' ⟨hgrow.os.trans hos, hgrow.tape.trans htp, hgrow.output.trans hou, by have := hgrow.size; omega, fun j hj hS => (hgrow.block j (by omega) (fun e => hS (mem_bl.mpr e.symm))).trans (hold j hj)⟩ ?_
  rcases hloc with h | h
  · exact .inl h
  · exact .inr (by omega)

end Go.Proofs.YtbadcpaopdbgnaaDoor.Lang
