-- Put together by mergex.py out of this workplace's texts.
import Derived.Test.YtpepmmfhanaipaaGreatDoorRows
import Derived.Test.YtpepmmfhanaipaaGreatDoorJf
import Derived.Stop.LaidErr
import Derived.LaidLaws
import Derived.Lay
import Derived.ProofKit
import Derived.Handy
import Derived.MakeChecks
namespace Go.Proofs.YtpepmmfhanaipaaGreatDoor.Lang
open Go.RowKit Go.Shelf
set_option linter.unusedVariables false
theorem pow10_eq : (Rows.laid_internal_strconv_uint64pow10 : DataW Unit) = Lib.tabData .u64 Lib.pow10Tab := by kernel_rfl
theorem space_eq : (Rows.laid_strings_asciiSpace : DataW Unit) = Lib.tabData .u8 Lib.asciiSpaceTab := by kernel_rfl
theorem star : "*" ++ "errors.errorString" = "*errors.errorString" := by decide
theorem row342 (u : TypeId) (h : Tryz.prog.typeName? 3 u = some "*errors.errorString") : u = 342 :=
  typeName_ptr_named (nm := "errors.errorString") (by rw [star]; kernel_rfl) (by kernel_rfl) (by decide) u (by rw [star]; exact h)
def laid7 : List (String × DataW Unit) := [("math/bits.deBruijn32tab", Rows.laid_math_bits_deBruijn32tab), ("math/bits.deBruijn64tab", Rows.laid_math_bits_deBruijn64tab), ("internal/strconv.uint64pow10", Rows.laid_internal_strconv_uint64pow10), ("strconv.ErrRange", Rows.laid_strconv_ErrRange), ("strconv.ErrSyntax", Rows.laid_strconv_ErrSyntax), ("unicode.White_Space", Rows.laid_unicode_White_Space), ("strings.asciiSpace", Rows.laid_strings_asciiSpace)]
theorem laid_plain (w : World) : laidMetH Tryz.prog laid7 w = laidMet Tryz.prog laid7 w := MakeChecks.laidMetH_plain _ _ _ (by kernel_rfl)
theorem Laid.of {w : World} (h : laidMetH Tryz.prog laid7 w) : Laid w := by
  rw [laid_plain] at h
  have h2 : laidMet Tryz.prog (("internal/strconv.uint64pow10", Lib.tabData .u64 Lib.pow10Tab) :: _) w := pow10_eq ▸ h.tail.tail
  have h3 := h.tail.tail.tail
  have h4 := h3.tail
  have h6 : laidMet Tryz.prog [("strings.asciiSpace", Lib.tabData .u8 Lib.asciiSpaceTab)] w := space_eq ▸ h4.tail.tail
  obtain ⟨a0, s0, hv0, -, -, -⟩ := laid_sentinel h3 (g := 2) (ti := 302) (tp := 342) (te := 344) (ts := 9) (by kernel_rfl) (by kernel_rfl) Tryz.underlying302 row342 Tryz.underlying342 Tryz.underlying344 rfl rfl Tryz.underlying9 (by kernel_rfl) (by kernel_rfl)
  obtain ⟨a1, s1, hv1, -, -, -⟩ := laid_sentinel h4 (g := 1) (ti := 302) (tp := 342) (te := 344) (ts := 9) (by kernel_rfl) (by kernel_rfl) Tryz.underlying302 row342 Tryz.underlying342 Tryz.underlying344 rfl rfl Tryz.underlying9 (by kernel_rfl) (by kernel_rfl)
  exact ⟨Lib.tabIs_of_head (g := 0) (t := 331) (by kernel_rfl) (by kernel_rfl) Tryz.underlying331 Tryz.underlying5 (by kernel_rfl) (by kernel_rfl) h6,
    Lib.tabIs_of_head (g := 3) (t := 337) (by kernel_rfl) (by kernel_rfl) Tryz.underlying337 Tryz.underlying200 (by kernel_rfl) (by kernel_rfl) h2,
    ⟨_, _, hv1⟩, ⟨_, _, hv0⟩⟩
end Go.Proofs.YtpepmmfhanaipaaGreatDoor.Lang
