/-
  What the statement's own texts are: the good ones, and the bad ones with their errors.
-/
import Derived.Test.YtbadcpaopdbgnaaDoorLangJ
namespace Go.Proofs.YtbadcpaopdbgnaaDoor.Lang
open Go.RowKit Go.Shelf
set_option linter.unusedVariables false

def reps (x : List UInt8) : Nat → List UInt8
  | 0 => []
  | n + 1 => reps x n ++ x
def opsT : List UInt8 := reps [97, 32] 128
def deepT : List UInt8 := reps [105, 102, 32, 91, 32] 6
def shutT : List UInt8 := reps [93, 32] 6
def goods : List ByteArray := [⟨#[]⟩, ⟨#[32]⟩, ⟨opsT.toArray⟩, ⟨(deepT ++ shutT).toArray⟩, ⟨#[57, 50, 50, 51, 51, 55, 50, 48, 51, 54, 56, 53, 52, 55, 55, 53, 56, 48, 55, 32, 45, 57, 50, 50, 51, 51, 55, 50, 48, 51, 54, 56, 53, 52, 55, 55, 53, 56, 48, 56]⟩, ⟨#[114, 101, 112, 32, 91, 32, 93]⟩]
def bads : List ByteArray := [⟨(opsT ++ [97]).toArray⟩, ⟨(deepT ++ [105, 102, 32, 91, 32, 93, 32] ++ shutT).toArray⟩, ⟨(List.replicate 513 0).toArray⟩, ⟨#[98]⟩, ⟨#[48, 49]⟩, ⟨#[45, 48]⟩, ⟨#[43, 49]⟩, ⟨#[57, 50, 50, 51, 51, 55, 50, 48, 51, 54, 56, 53, 52, 55, 55, 53, 56, 48, 56]⟩, ⟨#[105, 102]⟩, ⟨#[105, 102, 32, 97, 32, 93]⟩, ⟨#[93]⟩, ⟨#[91]⟩, ⟨#[105, 102, 32, 91]⟩, ⟨#[114, 101, 112, 32, 91, 32, 97]⟩, ⟨#[65]⟩, ⟨#[49, 45]⟩]
def wants : List Int := [2, 2, 2, 7, 7, 7, 7, 7, 6, 7, 7, 7, 6, 6, 7, 7]
def okB : Except Int Ops → Bool
  | .ok _ => true
  | _ => false
def errB (c : Int) : Except Int Ops → Bool
  | .error d => d == c
  | _ => false
theorem goods_ok : goods.all (fun s => okB (parsed s)) = true := by decide +kernel
theorem bads_err : (bads.zip wants).all (fun p => errB p.2 (parsed p.1)) = true := by decide +kernel
end Go.Proofs.YtbadcpaopdbgnaaDoor.Lang
