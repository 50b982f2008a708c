/-
  What the rows' cell 'laid' gives the walks: the tables and the two errors of the library's.
-/
import Derived.Test.YtbadcpaopdbgnaaDoorRows
import Derived.Test.YtbadcpaopdbgnaaDoorLangA
import Derived.Stop.LaidErr
import Derived.LaidLaws
import Derived.Lay
import Derived.ProofKit
import Derived.Handy
import Derived.MakeChecks
namespace Go.Proofs.YtbadcpaopdbgnaaDoor.Lang
open Go.RowKit Go.Shelf
set_option linter.unusedVariables false

theorem pow10_eq : (Rows.laid_internal_strconv_uint64pow10 : DataW Unit) = Lib.tabData .u64 Lib.pow10Tab := by kernel_rfl
theorem space_eq : (Rows.laid_strings_asciiSpace : DataW Unit) = Lib.tabData .u8 Lib.asciiSpaceTab := by kernel_rfl
theorem star : "*" ++ "errors.errorString" = "*errors.errorString" := by decide
theorem row137 (u : TypeId) (h : Tryd.prog.typeName? 3 u = some "*errors.errorString") : u = 137 :=
  typeName_ptr_named (nm := "errors.errorString") (by rw [star]; kernel_rfl) (by kernel_rfl) (by decide) u (by rw [star]; exact h)

def laid7 : List (String × DataW Unit) := [("math/bits.deBruijn32tab", Rows.laid_math_bits_deBruijn32tab), ("math/bits.deBruijn64tab", Rows.laid_math_bits_deBruijn64tab), ("internal/strconv.uint64pow10", Rows.laid_internal_strconv_uint64pow10), ("strconv.ErrRange", Rows.laid_strconv_ErrRange), ("strconv.ErrSyntax", Rows.laid_strconv_ErrSyntax), ("unicode.White_Space", Rows.laid_unicode_White_Space), ("strings.asciiSpace", Rows.laid_strings_asciiSpace)]
theorem laid_plain (w : World) : laidMetH Tryd.prog laid7 w = laidMet Tryd.prog laid7 w := MakeChecks.laidMetH_plain _ _ _ (by kernel_rfl)
theorem Laid.of {w : World} (h : laidMetH Tryd.prog laid7 w) : Laid w := by
  rw [laid_plain] at h
  have h2 : laidMet Tryd.prog (("internal/strconv.uint64pow10", Lib.tabData .u64 Lib.pow10Tab) :: _) w := pow10_eq ▸ h.tail.tail
  have h3 := h.tail.tail.tail
  have h4 := h3.tail
  have h6 : laidMet Tryd.prog [("strings.asciiSpace", Lib.tabData .u8 Lib.asciiSpaceTab)] w := space_eq ▸ h4.tail.tail
  obtain ⟨a0, s0, hv0, -, -, -⟩ := laid_sentinel h3 (g := 5) (ti := 84) (tp := 137) (te := 139) (ts := 9) (by kernel_rfl) (by kernel_rfl) Tryd.underlying84 row137 Tryd.underlying137 Tryd.underlying139 rfl rfl Tryd.underlying9 (by kernel_rfl) (by kernel_rfl)
  obtain ⟨a1, s1, hv1, -, -, -⟩ := laid_sentinel h4 (g := 4) (ti := 84) (tp := 137) (te := 139) (ts := 9) (by kernel_rfl) (by kernel_rfl) Tryd.underlying84 row137 Tryd.underlying137 Tryd.underlying139 rfl rfl Tryd.underlying9 (by kernel_rfl) (by kernel_rfl)
  exact ⟨Lib.tabIs_of_head (g := 0) (t := 103) (by kernel_rfl) (by kernel_rfl) Tryd.underlying103 Tryd.underlying5 (by kernel_rfl) (by kernel_rfl) h6,
    Lib.tabIs_of_head (g := 2) (t := 113) (by kernel_rfl) (by kernel_rfl) Tryd.underlying113 Tryd.underlying78 (by kernel_rfl) (by kernel_rfl) h2,
    ⟨_, _, hv1⟩, ⟨_, _, hv0⟩⟩
set_option maxRecDepth 100000 in
theorem cell_slice {W : World} {base : Nat} {u e : TypeId} {v : Value} (hu : Tryd.prog.underlying u = some (.slice e)) (h : Cell.okWide Tryd.prog W .any base u v) : ∃ A n c, v = .slice A n c := by
  simp only [Cell.okWide, hu] at h
  cases v <;> simp_all [Cell.ok]
theorem cells25 : Tryd.prog.cellTypes Tryd.prog.depth 25 = some [22, 23] := by kernel_rfl
theorem size25 : Tryd.prog.cellsOf 25 = 2 := by kernel_rfl
set_option maxRecDepth 100000 in
/-- What comes in: a struct of two slices. -/
theorem ask_shape {W : World} {base : Nat} {v : Value} (h : Value.okWide Tryd.prog W .any base 25 v) : ∃ A n c A2 n2 c2, v = .agg #[.slice A n c, .slice A2 n2 c2] := by
  simp only [Value.okWide, Tryd.underlying25] at h
  obtain ⟨cs, rfl, hsz, ts, hts, -, hc⟩ := h
  obtain rfl := Option.some.inj (cells25.symm.trans hts)
  have h2 : cs.size = 2 := hsz.trans size25
  have e0 : cs[0]? = some (cs[0]'(by omega)) := Array.getElem?_eq_getElem _
  have e1 : cs[1]? = some (cs[1]'(by omega)) := Array.getElem?_eq_getElem _
  obtain ⟨u0, hu0, k0⟩ := hc 0 _ e0
  obtain ⟨u1, hu1, k1⟩ := hc 1 _ e1
  obtain rfl : 22 = u0 := Option.some.inj hu0
  obtain rfl : 23 = u1 := Option.some.inj hu1
  obtain ⟨A, n, c, f0⟩ := cell_slice Tryd.underlying22 k0
  obtain ⟨A2, n2, c2, f1⟩ := cell_slice Tryd.underlying23 k1
  refine ⟨A, n, c, A2, n2, c2, ?_⟩
  congr 1
  apply Array.ext
  · simp [h2]
  · intro i hi1 hi2
    have : i = 0 ∨ i = 1 := by omega
    rcases this with rfl | rfl
    · simpa using f0
    · simpa using f1
end Go.Proofs.YtbadcpaopdbgnaaDoor.Lang
