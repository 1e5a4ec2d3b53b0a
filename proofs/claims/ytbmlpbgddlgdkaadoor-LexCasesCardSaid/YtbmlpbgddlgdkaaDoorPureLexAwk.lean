/- What the law's own wake-up call answers. No condition beyond those that each theorem names. -/
import Derived.Test.YtbmlpbgddlgdkaaDoorPureLex4
import Derived.Test.YtbmlpbgddlgdkaaDoorLxw7
namespace Go.Proofs.YtbmlpbgddlgdkaaDoor.Lx
open Go.RowKit Go.Proofs.YtbmlpbgddlgdkaaDoorW.PrintWords Go.Proofs.YtbmlpbgddlgdkaaDoorW.PrintLast Go.Proofs.YtbmlpbgddlgdkaaDoorW.PrintMore
open Go.Proofs.YtbmlpbgddlgdkaaDoor.Dec (readS textS digN)
set_option linter.unusedVariables false
set_option linter.unusedSimpArgs false
def awakeT : List S33 := [⟨2, ⟨#[83, 69, 76, 69, 67, 84]⟩, 0, 0⟩, ⟨1, ⟨#[97]⟩, 0, 7⟩, ⟨5, ⟨#[46]⟩, 0, 8⟩, ⟨1, ⟨#[98]⟩, 0, 9⟩, ⟨5, ⟨#[62, 61]⟩, 0, 11⟩, ⟨3, ⟨#[]⟩, 3, 14⟩, ⟨0, ⟨#[]⟩, 0, 20⟩]
set_option maxRecDepth 100000 in
theorem awake_toks : toksL 20 21 0 [115, 101, 108, 101, 99, 116, 32, 97, 46, 98, 32, 62, 61, 32, 51, 32, 45, 45, 32, 120] = some awakeT := by kernel_rfl
set_option maxRecDepth 100000 in
theorem from_key : isKey [70, 82, 79, 77] = true ∧ isKey [65] = false ∧ isWordL [102, 114, 111, 109] = false := ⟨by kernel_rfl, by kernel_rfl, by kernel_rfl⟩
set_option maxRecDepth 10000 in
theorem awake_f (k : Nat) (hk : 200000 < k) : quaysidelaw16_awake.f k = some true := by
  unfold quaysidelaw16_awake.f
  rw [tokens_some (⟨#[115, 101, 108, 101, 99, 116, 32, 97, 46, 98, 32, 62, 61, 32, 51, 32, 45, 45, 32, 120]⟩ : ByteArray) k 21 awakeT (by decide) (by omega) (by decide) awake_toks, Option.bind_some]
  have hl : ∀ a : Array UInt8, (⟨a⟩ : ByteArray).toList = a.toList := fun a => bl _
  have hword : lex_Word.f k (⟨#[97]⟩ : ByteArray) = some true := by
    rw [word_f _ k (by omega)]
    have : isWordL [97] = true := by
      show (decide (1 ≤ 64) && !digB 97 && !isKey [65] && true && true) = true
      rw [from_key.2.1]; rfl
    exact congrArg some this
  have hput : lex_Put.f k 1 (⟨#[102, 114, 111, 109]⟩ : ByteArray) 0 0 = some ⟨#[34, 102, 114, 111, 109, 34]⟩ := by
    have := put_f 1 [102, 114, 111, 109] 0 0 k (by omega) (.inl (.inl ⟨rfl, by decide, by decide, rfl⟩))
    rw [show putL 1 [102, 114, 111, 109] 0 = if isWordL [102, 114, 111, 109] = true then [102, 114, 111, 109] else 34 :: (escL 34 [102, 114, 111, 109] ++ [34]) from rfl, from_key.2.2, if_neg (by decide)] at this
    exact this
  have hkey : lex_Key.f k (⟨#[70, 82, 79, 77]⟩ : ByteArray) = some true := by rw [key_f _ k (by omega)]; exact congrArg some from_key.1
  rw [hkey, hword, hput]
  simp only [Option.bind_some, awakeT, rd_T33]
  simp [hl]
end Go.Proofs.YtbmlpbgddlgdkaaDoor.Lx
