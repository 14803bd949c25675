/-
  No cell of these rows narrows 'for every input' (looked for: loops, veiled, ifaces, maps, wideKeys, modest, calm, conditions, laid).
  DERIVED. THE GIVEN ROWS OF THIS SEAT. 27 by the template 'for every input the law returns true; each argument reads behind the call as it read before'; 0 by the template 'total and deterministic' (their statements: YtibfihjcjohadaaTotals.lean).
  GIVEN WITH THE SEED: the statements are not yours to turn. If you find one false, say at which input.
  Laid BY PROGRAM, IN A SANDBOX (cutbox-rows.mjs): the forced cells as the released guide's own fill.sh prints them over the translation 815a1d016f78f747… (all of the seat's roots in one cut). By AI agents, Wed Nov 11 2026. No macro, syntax, notation, axiom, sorry.
-/
import Derived.Test.YtibfihjcjohadaaChecked
import GoSem.Claim
import GoSem.ClaimJoined
import GoSem.ClaimMapViews
import Derived.JoinedTies
import Derived.KernelRfl
namespace Go.Proofs.Ytibfihjcjohadaa
/- THE CELL 'sum', in the pinned program and in every row, IS THE sha256 OF THE DUMP (.gsa) THAT YtibfihjcjohadaaProg.lean LOADS. Nothing in Lean hashes anything: it is a label: what it is worth is what the hold of that sum in a sandbox is worth. -/
noncomputable def Try.pinned : Pinned := { name := "ytibfihjcjohadaa", sum := "815a1d016f78f7474cbf942f3d6f64c79fb017244eec733d95f587494271b9be", checked := Try.checked }
namespace Rows
def none {H : Type} : Left H := { results := [], args := [] }

/-- 'priorylaw4.FieldLaws': WHATEVER THE INPUT: true; the input reads as it did. -/
def fieldLawsSpec : ChangeSpec := { name := "fieldLaws", fn := fun _ => fun
  | [d1, d2, d3] => { results := [.lit (.bool true)], args := [d1, d2, d3] }
  | _ => none }
def fieldLawsRow : OpenClaim := { program := "ytibfihjcjohadaa", sum := "815a1d016f78f7474cbf942f3d6f64c79fb017244eec733d95f587494271b9be", func := "priory/priorylaw4.FieldLaws", spec := "fieldLaws", apart := false }
def FieldLawsSaid : Prop := fieldLawsRow.holds Try.pinned (OpenSpec.ofChange fieldLawsSpec)

/-- ITS FALSE NEIGHBOUR: 'it returns false'. Refute it at one input. -/
def fieldLawsWrong : ChangeSpec := { name := "fieldLaws", fn := fun _ => fun
  | [d1, d2, d3] => { results := [.lit (.bool false)], args := [d1, d2, d3] }
  | _ => none }
def FieldLawsWrongFalsely : Prop := fieldLawsRow.holds Try.pinned (OpenSpec.ofChange fieldLawsWrong)

/-- 'priorylaw4.FieldPowers': WHATEVER THE INPUT: true; the input reads as it did. -/
def fieldPowersSpec : ChangeSpec := { name := "fieldPowers", fn := fun _ => fun
  | [d1, d2, d3] => { results := [.lit (.bool true)], args := [d1, d2, d3] }
  | _ => none }
def fieldPowersRow : OpenClaim := { program := "ytibfihjcjohadaa", sum := "815a1d016f78f7474cbf942f3d6f64c79fb017244eec733d95f587494271b9be", func := "priory/priorylaw4.FieldPowers", spec := "fieldPowers", apart := false }
def FieldPowersSaid : Prop := fieldPowersRow.holds Try.pinned (OpenSpec.ofChange fieldPowersSpec)

/-- ITS FALSE NEIGHBOUR: 'it returns false'. Refute it at one input. -/
def fieldPowersWrong : ChangeSpec := { name := "fieldPowers", fn := fun _ => fun
  | [d1, d2, d3] => { results := [.lit (.bool false)], args := [d1, d2, d3] }
  | _ => none }
def FieldPowersWrongFalsely : Prop := fieldPowersRow.holds Try.pinned (OpenSpec.ofChange fieldPowersWrong)

/-- 'priorylaw4.FieldSums': WHATEVER THE INPUT: true; the input reads as it did. -/
def fieldSumsSpec : ChangeSpec := { name := "fieldSums", fn := fun _ => fun
  | [d1, d2] => { results := [.lit (.bool true)], args := [d1, d2] }
  | _ => none }
def fieldSumsRow : OpenClaim := { program := "ytibfihjcjohadaa", sum := "815a1d016f78f7474cbf942f3d6f64c79fb017244eec733d95f587494271b9be", func := "priory/priorylaw4.FieldSums", spec := "fieldSums", apart := false }
def FieldSumsSaid : Prop := fieldSumsRow.holds Try.pinned (OpenSpec.ofChange fieldSumsSpec)

/-- ITS FALSE NEIGHBOUR: 'it returns false'. Refute it at one input. -/
def fieldSumsWrong : ChangeSpec := { name := "fieldSums", fn := fun _ => fun
  | [d1, d2] => { results := [.lit (.bool false)], args := [d1, d2] }
  | _ => none }
def FieldSumsWrongFalsely : Prop := fieldSumsRow.holds Try.pinned (OpenSpec.ofChange fieldSumsWrong)

/-- 'priorylaw4.FieldTwice': WHATEVER THE INPUT: true; the input reads as it did. -/
def fieldTwiceSpec : ChangeSpec := { name := "fieldTwice", fn := fun _ => fun
  | [d] => { results := [.lit (.bool true)], args := [d] }
  | _ => none }
def fieldTwiceRow : OpenClaim := { program := "ytibfihjcjohadaa", sum := "815a1d016f78f7474cbf942f3d6f64c79fb017244eec733d95f587494271b9be", func := "priory/priorylaw4.FieldTwice", spec := "fieldTwice", apart := false }
def FieldTwiceSaid : Prop := fieldTwiceRow.holds Try.pinned (OpenSpec.ofChange fieldTwiceSpec)

/-- ITS FALSE NEIGHBOUR: 'it returns false'. Refute it at one input. -/
def fieldTwiceWrong : ChangeSpec := { name := "fieldTwice", fn := fun _ => fun
  | [d] => { results := [.lit (.bool false)], args := [d] }
  | _ => none }
def FieldTwiceWrongFalsely : Prop := fieldTwiceRow.holds Try.pinned (OpenSpec.ofChange fieldTwiceWrong)

/-- 'priorylaw4.FieldInverse': WHATEVER THE INPUT: true; the input reads as it did. -/
def fieldInverseSpec : ChangeSpec := { name := "fieldInverse", fn := fun _ => fun
  | [d1, d2] => { results := [.lit (.bool true)], args := [d1, d2] }
  | _ => none }
def fieldInverseRow : OpenClaim := { program := "ytibfihjcjohadaa", sum := "815a1d016f78f7474cbf942f3d6f64c79fb017244eec733d95f587494271b9be", func := "priory/priorylaw4.FieldInverse", spec := "fieldInverse", apart := false }
def FieldInverseSaid : Prop := fieldInverseRow.holds Try.pinned (OpenSpec.ofChange fieldInverseSpec)

/-- ITS FALSE NEIGHBOUR: 'it returns false'. Refute it at one input. -/
def fieldInverseWrong : ChangeSpec := { name := "fieldInverse", fn := fun _ => fun
  | [d1, d2] => { results := [.lit (.bool false)], args := [d1, d2] }
  | _ => none }
def FieldInverseWrongFalsely : Prop := fieldInverseRow.holds Try.pinned (OpenSpec.ofChange fieldInverseWrong)

/-- 'priorylaw7.TweakTells': WHATEVER THE INPUT: true; the input reads as it did. -/
def tweakTellsSpec : ChangeSpec := { name := "tweakTells", fn := fun _ => fun
  | [d1, d2, d3] => { results := [.lit (.bool true)], args := [d1, d2, d3] }
  | _ => none }
def tweakTellsRow : OpenClaim := { program := "ytibfihjcjohadaa", sum := "815a1d016f78f7474cbf942f3d6f64c79fb017244eec733d95f587494271b9be", func := "priory/priorylaw7.TweakTells", spec := "tweakTells", apart := false }
def TweakTellsSaid : Prop := tweakTellsRow.holds Try.pinned (OpenSpec.ofChange tweakTellsSpec)

/-- ITS FALSE NEIGHBOUR: 'it returns false'. Refute it at one input. -/
def tweakTellsWrong : ChangeSpec := { name := "tweakTells", fn := fun _ => fun
  | [d1, d2, d3] => { results := [.lit (.bool false)], args := [d1, d2, d3] }
  | _ => none }
def TweakTellsWrongFalsely : Prop := tweakTellsRow.holds Try.pinned (OpenSpec.ofChange tweakTellsWrong)

/-- 'priorylaw7.TweakBack': WHATEVER THE INPUT: true; the input reads as it did. -/
def tweakBackSpec : ChangeSpec := { name := "tweakBack", fn := fun _ => fun
  | [d1, d2, d3] => { results := [.lit (.bool true)], args := [d1, d2, d3] }
  | _ => none }
def tweakBackRow : OpenClaim := { program := "ytibfihjcjohadaa", sum := "815a1d016f78f7474cbf942f3d6f64c79fb017244eec733d95f587494271b9be", func := "priory/priorylaw7.TweakBack", spec := "tweakBack", apart := false }
def TweakBackSaid : Prop := tweakBackRow.holds Try.pinned (OpenSpec.ofChange tweakBackSpec)

/-- ITS FALSE NEIGHBOUR: 'it returns false'. Refute it at one input. -/
def tweakBackWrong : ChangeSpec := { name := "tweakBack", fn := fun _ => fun
  | [d1, d2, d3] => { results := [.lit (.bool false)], args := [d1, d2, d3] }
  | _ => none }
def TweakBackWrongFalsely : Prop := tweakBackRow.holds Try.pinned (OpenSpec.ofChange tweakBackWrong)

/-- 'priorylaw7.TweakSums': WHATEVER THE INPUT: true; the input reads as it did. -/
def tweakSumsSpec : ChangeSpec := { name := "tweakSums", fn := fun _ => fun
  | [d] => { results := [.lit (.bool true)], args := [d] }
  | _ => none }
def tweakSumsRow : OpenClaim := { program := "ytibfihjcjohadaa", sum := "815a1d016f78f7474cbf942f3d6f64c79fb017244eec733d95f587494271b9be", func := "priory/priorylaw7.TweakSums", spec := "tweakSums", apart := false }
def TweakSumsSaid : Prop := tweakSumsRow.holds Try.pinned (OpenSpec.ofChange tweakSumsSpec)

/-- ITS FALSE NEIGHBOUR: 'it returns false'. Refute it at one input. -/
def tweakSumsWrong : ChangeSpec := { name := "tweakSums", fn := fun _ => fun
  | [d] => { results := [.lit (.bool false)], args := [d] }
  | _ => none }
def TweakSumsWrongFalsely : Prop := tweakSumsRow.holds Try.pinned (OpenSpec.ofChange tweakSumsWrong)

/-- 'priorylaw7.TweakNumbers': WHATEVER THE INPUT: true; the input reads as it did. -/
def tweakNumbersSpec : ChangeSpec := { name := "tweakNumbers", fn := fun _ => fun
  | [d1, d2] => { results := [.lit (.bool true)], args := [d1, d2] }
  | _ => none }
def tweakNumbersRow : OpenClaim := { program := "ytibfihjcjohadaa", sum := "815a1d016f78f7474cbf942f3d6f64c79fb017244eec733d95f587494271b9be", func := "priory/priorylaw7.TweakNumbers", spec := "tweakNumbers", apart := false }
def TweakNumbersSaid : Prop := tweakNumbersRow.holds Try.pinned (OpenSpec.ofChange tweakNumbersSpec)

/-- ITS FALSE NEIGHBOUR: 'it returns false'. Refute it at one input. -/
def tweakNumbersWrong : ChangeSpec := { name := "tweakNumbers", fn := fun _ => fun
  | [d1, d2] => { results := [.lit (.bool false)], args := [d1, d2] }
  | _ => none }
def TweakNumbersWrongFalsely : Prop := tweakNumbersRow.holds Try.pinned (OpenSpec.ofChange tweakNumbersWrong)

/-- 'priorylaw7.TweakAround': WHATEVER THE INPUT: true; the input reads as it did. -/
def tweakAroundSpec : ChangeSpec := { name := "tweakAround", fn := fun _ => fun
  | [d] => { results := [.lit (.bool true)], args := [d] }
  | _ => none }
def tweakAroundRow : OpenClaim := { program := "ytibfihjcjohadaa", sum := "815a1d016f78f7474cbf942f3d6f64c79fb017244eec733d95f587494271b9be", func := "priory/priorylaw7.TweakAround", spec := "tweakAround", apart := false }
def TweakAroundSaid : Prop := tweakAroundRow.holds Try.pinned (OpenSpec.ofChange tweakAroundSpec)

/-- ITS FALSE NEIGHBOUR: 'it returns false'. Refute it at one input. -/
def tweakAroundWrong : ChangeSpec := { name := "tweakAround", fn := fun _ => fun
  | [d] => { results := [.lit (.bool false)], args := [d] }
  | _ => none }
def TweakAroundWrongFalsely : Prop := tweakAroundRow.holds Try.pinned (OpenSpec.ofChange tweakAroundWrong)

/-- 'priorylaw5.SboxTells': WHATEVER THE INPUT: true; the input reads as it did. -/
def sboxTellsSpec : ChangeSpec := { name := "sboxTells", fn := fun _ => fun
  | [d1, d2, d3] => { results := [.lit (.bool true)], args := [d1, d2, d3] }
  | _ => none }
def sboxTellsRow : OpenClaim := { program := "ytibfihjcjohadaa", sum := "815a1d016f78f7474cbf942f3d6f64c79fb017244eec733d95f587494271b9be", func := "priory/priorylaw5.SboxTells", spec := "sboxTells", apart := false }
def SboxTellsSaid : Prop := sboxTellsRow.holds Try.pinned (OpenSpec.ofChange sboxTellsSpec)

/-- ITS FALSE NEIGHBOUR: 'it returns false'. Refute it at one input. -/
def sboxTellsWrong : ChangeSpec := { name := "sboxTells", fn := fun _ => fun
  | [d1, d2, d3] => { results := [.lit (.bool false)], args := [d1, d2, d3] }
  | _ => none }
def SboxTellsWrongFalsely : Prop := sboxTellsRow.holds Try.pinned (OpenSpec.ofChange sboxTellsWrong)

/-- 'priorylaw5.SboxAll': WHATEVER THE INPUT: true; the input reads as it did. -/
def sboxAllSpec : ChangeSpec := { name := "sboxAll", fn := fun _ => fun
  | [d] => { results := [.lit (.bool true)], args := [d] }
  | _ => none }
def sboxAllRow : OpenClaim := { program := "ytibfihjcjohadaa", sum := "815a1d016f78f7474cbf942f3d6f64c79fb017244eec733d95f587494271b9be", func := "priory/priorylaw5.SboxAll", spec := "sboxAll", apart := false }
def SboxAllSaid : Prop := sboxAllRow.holds Try.pinned (OpenSpec.ofChange sboxAllSpec)

/-- ITS FALSE NEIGHBOUR: 'it returns false'. Refute it at one input. -/
def sboxAllWrong : ChangeSpec := { name := "sboxAll", fn := fun _ => fun
  | [d] => { results := [.lit (.bool false)], args := [d] }
  | _ => none }
def SboxAllWrongFalsely : Prop := sboxAllRow.holds Try.pinned (OpenSpec.ofChange sboxAllWrong)

/-- 'priorylaw5.SboxRounds': WHATEVER THE INPUT: true; the input reads as it did. -/
def sboxRoundsSpec : ChangeSpec := { name := "sboxRounds", fn := fun _ => fun
  | [d] => { results := [.lit (.bool true)], args := [d] }
  | _ => none }
def sboxRoundsRow : OpenClaim := { program := "ytibfihjcjohadaa", sum := "815a1d016f78f7474cbf942f3d6f64c79fb017244eec733d95f587494271b9be", func := "priory/priorylaw5.SboxRounds", spec := "sboxRounds", apart := false }
def SboxRoundsSaid : Prop := sboxRoundsRow.holds Try.pinned (OpenSpec.ofChange sboxRoundsSpec)

/-- ITS FALSE NEIGHBOUR: 'it returns false'. Refute it at one input. -/
def sboxRoundsWrong : ChangeSpec := { name := "sboxRounds", fn := fun _ => fun
  | [d] => { results := [.lit (.bool false)], args := [d] }
  | _ => none }
def SboxRoundsWrongFalsely : Prop := sboxRoundsRow.holds Try.pinned (OpenSpec.ofChange sboxRoundsWrong)

/-- 'priorylaw5.SboxShares': WHATEVER THE INPUT: true; the input reads as it did. -/
def sboxSharesSpec : ChangeSpec := { name := "sboxShares", fn := fun _ => fun
  | [d1, d2] => { results := [.lit (.bool true)], args := [d1, d2] }
  | _ => none }
def sboxSharesRow : OpenClaim := { program := "ytibfihjcjohadaa", sum := "815a1d016f78f7474cbf942f3d6f64c79fb017244eec733d95f587494271b9be", func := "priory/priorylaw5.SboxShares", spec := "sboxShares", apart := false }
def SboxSharesSaid : Prop := sboxSharesRow.holds Try.pinned (OpenSpec.ofChange sboxSharesSpec)

/-- ITS FALSE NEIGHBOUR: 'it returns false'. Refute it at one input. -/
def sboxSharesWrong : ChangeSpec := { name := "sboxShares", fn := fun _ => fun
  | [d1, d2] => { results := [.lit (.bool false)], args := [d1, d2] }
  | _ => none }
def SboxSharesWrongFalsely : Prop := sboxSharesRow.holds Try.pinned (OpenSpec.ofChange sboxSharesWrong)

/-- 'priorylaw5.SboxWords': WHATEVER THE INPUT: true; the input reads as it did. -/
def sboxWordsSpec : ChangeSpec := { name := "sboxWords", fn := fun _ => fun
  | [d1, d2, d3, d4] => { results := [.lit (.bool true)], args := [d1, d2, d3, d4] }
  | _ => none }
def sboxWordsRow : OpenClaim := { program := "ytibfihjcjohadaa", sum := "815a1d016f78f7474cbf942f3d6f64c79fb017244eec733d95f587494271b9be", func := "priory/priorylaw5.SboxWords", spec := "sboxWords", apart := false }
def SboxWordsSaid : Prop := sboxWordsRow.holds Try.pinned (OpenSpec.ofChange sboxWordsSpec)

/-- ITS FALSE NEIGHBOUR: 'it returns false'. Refute it at one input. -/
def sboxWordsWrong : ChangeSpec := { name := "sboxWords", fn := fun _ => fun
  | [d1, d2, d3, d4] => { results := [.lit (.bool false)], args := [d1, d2, d3, d4] }
  | _ => none }
def SboxWordsWrongFalsely : Prop := sboxWordsRow.holds Try.pinned (OpenSpec.ofChange sboxWordsWrong)

/-- 'priorylaw6.AesBack': WHATEVER THE INPUT: true; the input reads as it did. -/
def aesBackSpec : ChangeSpec := { name := "aesBack", fn := fun _ => fun
  | [d1, d2, d3] => { results := [.lit (.bool true)], args := [d1, d2, d3] }
  | _ => none }
def aesBackRow : OpenClaim := { program := "ytibfihjcjohadaa", sum := "815a1d016f78f7474cbf942f3d6f64c79fb017244eec733d95f587494271b9be", func := "priory/priorylaw6.AesBack", spec := "aesBack", apart := false }
def AesBackSaid : Prop := aesBackRow.holds Try.pinned (OpenSpec.ofChange aesBackSpec)

/-- ITS FALSE NEIGHBOUR: 'it returns false'. Refute it at one input. -/
def aesBackWrong : ChangeSpec := { name := "aesBack", fn := fun _ => fun
  | [d1, d2, d3] => { results := [.lit (.bool false)], args := [d1, d2, d3] }
  | _ => none }
def AesBackWrongFalsely : Prop := aesBackRow.holds Try.pinned (OpenSpec.ofChange aesBackWrong)

/-- 'priorylaw6.AesKnown': WHATEVER THE INPUT: true; the input reads as it did. -/
def aesKnownSpec : ChangeSpec := { name := "aesKnown", fn := fun _ => fun
  | [d] => { results := [.lit (.bool true)], args := [d] }
  | _ => none }
def aesKnownRow : OpenClaim := { program := "ytibfihjcjohadaa", sum := "815a1d016f78f7474cbf942f3d6f64c79fb017244eec733d95f587494271b9be", func := "priory/priorylaw6.AesKnown", spec := "aesKnown", apart := false }
def AesKnownSaid : Prop := aesKnownRow.holds Try.pinned (OpenSpec.ofChange aesKnownSpec)

/-- ITS FALSE NEIGHBOUR: 'it returns false'. Refute it at one input. -/
def aesKnownWrong : ChangeSpec := { name := "aesKnown", fn := fun _ => fun
  | [d] => { results := [.lit (.bool false)], args := [d] }
  | _ => none }
def AesKnownWrongFalsely : Prop := aesKnownRow.holds Try.pinned (OpenSpec.ofChange aesKnownWrong)

/-- 'priorylaw6.AesApart': WHATEVER THE INPUT: true; the input reads as it did. -/
def aesApartSpec : ChangeSpec := { name := "aesApart", fn := fun _ => fun
  | [d1, d2, d3] => { results := [.lit (.bool true)], args := [d1, d2, d3] }
  | _ => none }
def aesApartRow : OpenClaim := { program := "ytibfihjcjohadaa", sum := "815a1d016f78f7474cbf942f3d6f64c79fb017244eec733d95f587494271b9be", func := "priory/priorylaw6.AesApart", spec := "aesApart", apart := false }
def AesApartSaid : Prop := aesApartRow.holds Try.pinned (OpenSpec.ofChange aesApartSpec)

/-- ITS FALSE NEIGHBOUR: 'it returns false'. Refute it at one input. -/
def aesApartWrong : ChangeSpec := { name := "aesApart", fn := fun _ => fun
  | [d1, d2, d3] => { results := [.lit (.bool false)], args := [d1, d2, d3] }
  | _ => none }
def AesApartWrongFalsely : Prop := aesApartRow.holds Try.pinned (OpenSpec.ofChange aesApartWrong)

/-- 'priorylaw6.AesBlocks': WHATEVER THE INPUT: true; the input reads as it did. -/
def aesBlocksSpec : ChangeSpec := { name := "aesBlocks", fn := fun _ => fun
  | [d1, d2] => { results := [.lit (.bool true)], args := [d1, d2] }
  | _ => none }
def aesBlocksRow : OpenClaim := { program := "ytibfihjcjohadaa", sum := "815a1d016f78f7474cbf942f3d6f64c79fb017244eec733d95f587494271b9be", func := "priory/priorylaw6.AesBlocks", spec := "aesBlocks", apart := false }
def AesBlocksSaid : Prop := aesBlocksRow.holds Try.pinned (OpenSpec.ofChange aesBlocksSpec)

/-- ITS FALSE NEIGHBOUR: 'it returns false'. Refute it at one input. -/
def aesBlocksWrong : ChangeSpec := { name := "aesBlocks", fn := fun _ => fun
  | [d1, d2] => { results := [.lit (.bool false)], args := [d1, d2] }
  | _ => none }
def AesBlocksWrongFalsely : Prop := aesBlocksRow.holds Try.pinned (OpenSpec.ofChange aesBlocksWrong)

/-- 'priorylaw6.AesKeys': WHATEVER THE INPUT: true; the input reads as it did. -/
def aesKeysSpec : ChangeSpec := { name := "aesKeys", fn := fun _ => fun
  | [d1, d2] => { results := [.lit (.bool true)], args := [d1, d2] }
  | _ => none }
def aesKeysRow : OpenClaim := { program := "ytibfihjcjohadaa", sum := "815a1d016f78f7474cbf942f3d6f64c79fb017244eec733d95f587494271b9be", func := "priory/priorylaw6.AesKeys", spec := "aesKeys", apart := false }
def AesKeysSaid : Prop := aesKeysRow.holds Try.pinned (OpenSpec.ofChange aesKeysSpec)

/-- ITS FALSE NEIGHBOUR: 'it returns false'. Refute it at one input. -/
def aesKeysWrong : ChangeSpec := { name := "aesKeys", fn := fun _ => fun
  | [d1, d2] => { results := [.lit (.bool false)], args := [d1, d2] }
  | _ => none }
def AesKeysWrongFalsely : Prop := aesKeysRow.holds Try.pinned (OpenSpec.ofChange aesKeysWrong)

/-- 'priorylaw6.AesSchedule': WHATEVER THE INPUT: true; the input reads as it did. -/
def aesScheduleSpec : ChangeSpec := { name := "aesSchedule", fn := fun _ => fun
  | [d] => { results := [.lit (.bool true)], args := [d] }
  | _ => none }
def aesScheduleRow : OpenClaim := { program := "ytibfihjcjohadaa", sum := "815a1d016f78f7474cbf942f3d6f64c79fb017244eec733d95f587494271b9be", func := "priory/priorylaw6.AesSchedule", spec := "aesSchedule", apart := false }
def AesScheduleSaid : Prop := aesScheduleRow.holds Try.pinned (OpenSpec.ofChange aesScheduleSpec)

/-- ITS FALSE NEIGHBOUR: 'it returns false'. Refute it at one input. -/
def aesScheduleWrong : ChangeSpec := { name := "aesSchedule", fn := fun _ => fun
  | [d] => { results := [.lit (.bool false)], args := [d] }
  | _ => none }
def AesScheduleWrongFalsely : Prop := aesScheduleRow.holds Try.pinned (OpenSpec.ofChange aesScheduleWrong)

/-- 'priorylaw8.XtsBack': WHATEVER THE INPUT: true; the input reads as it did. -/
def xtsBackSpec : ChangeSpec := { name := "xtsBack", fn := fun _ => fun
  | [d1, d2, d3, d4, d5] => { results := [.lit (.bool true)], args := [d1, d2, d3, d4, d5] }
  | _ => none }
def xtsBackRow : OpenClaim := { program := "ytibfihjcjohadaa", sum := "815a1d016f78f7474cbf942f3d6f64c79fb017244eec733d95f587494271b9be", func := "priory/priorylaw8.XtsBack", spec := "xtsBack", unfollowed := true, recurses := true, apart := false }
def XtsBackSaid : Prop := xtsBackRow.holds Try.pinned (OpenSpec.ofChange xtsBackSpec)

/-- ITS FALSE NEIGHBOUR: 'it returns false'. Refute it at one input. -/
def xtsBackWrong : ChangeSpec := { name := "xtsBack", fn := fun _ => fun
  | [d1, d2, d3, d4, d5] => { results := [.lit (.bool false)], args := [d1, d2, d3, d4, d5] }
  | _ => none }
def XtsBackWrongFalsely : Prop := xtsBackRow.holds Try.pinned (OpenSpec.ofChange xtsBackWrong)

/-- 'priorylaw8.XtsPrefix': WHATEVER THE INPUT: true; the input reads as it did. -/
def xtsPrefixSpec : ChangeSpec := { name := "xtsPrefix", fn := fun _ => fun
  | [d1, d2, d3, d4] => { results := [.lit (.bool true)], args := [d1, d2, d3, d4] }
  | _ => none }
def xtsPrefixRow : OpenClaim := { program := "ytibfihjcjohadaa", sum := "815a1d016f78f7474cbf942f3d6f64c79fb017244eec733d95f587494271b9be", func := "priory/priorylaw8.XtsPrefix", spec := "xtsPrefix", unfollowed := true, recurses := true, apart := false }
def XtsPrefixSaid : Prop := xtsPrefixRow.holds Try.pinned (OpenSpec.ofChange xtsPrefixSpec)

/-- ITS FALSE NEIGHBOUR: 'it returns false'. Refute it at one input. -/
def xtsPrefixWrong : ChangeSpec := { name := "xtsPrefix", fn := fun _ => fun
  | [d1, d2, d3, d4] => { results := [.lit (.bool false)], args := [d1, d2, d3, d4] }
  | _ => none }
def XtsPrefixWrongFalsely : Prop := xtsPrefixRow.holds Try.pinned (OpenSpec.ofChange xtsPrefixWrong)

/-- 'priorylaw8.XtsKnown': WHATEVER THE INPUT: true; the input reads as it did. -/
def xtsKnownSpec : ChangeSpec := { name := "xtsKnown", fn := fun _ => fun
  | [d] => { results := [.lit (.bool true)], args := [d] }
  | _ => none }
def xtsKnownRow : OpenClaim := { program := "ytibfihjcjohadaa", sum := "815a1d016f78f7474cbf942f3d6f64c79fb017244eec733d95f587494271b9be", func := "priory/priorylaw8.XtsKnown", spec := "xtsKnown", unfollowed := true, recurses := true, apart := false }
def XtsKnownSaid : Prop := xtsKnownRow.holds Try.pinned (OpenSpec.ofChange xtsKnownSpec)

/-- ITS FALSE NEIGHBOUR: 'it returns false'. Refute it at one input. -/
def xtsKnownWrong : ChangeSpec := { name := "xtsKnown", fn := fun _ => fun
  | [d] => { results := [.lit (.bool false)], args := [d] }
  | _ => none }
def XtsKnownWrongFalsely : Prop := xtsKnownRow.holds Try.pinned (OpenSpec.ofChange xtsKnownWrong)

/-- 'priorylaw8.XtsSectors': WHATEVER THE INPUT: true; the input reads as it did. -/
def xtsSectorsSpec : ChangeSpec := { name := "xtsSectors", fn := fun _ => fun
  | [d1, d2, d3, d4] => { results := [.lit (.bool true)], args := [d1, d2, d3, d4] }
  | _ => none }
def xtsSectorsRow : OpenClaim := { program := "ytibfihjcjohadaa", sum := "815a1d016f78f7474cbf942f3d6f64c79fb017244eec733d95f587494271b9be", func := "priory/priorylaw8.XtsSectors", spec := "xtsSectors", unfollowed := true, recurses := true, apart := false }
def XtsSectorsSaid : Prop := xtsSectorsRow.holds Try.pinned (OpenSpec.ofChange xtsSectorsSpec)

/-- ITS FALSE NEIGHBOUR: 'it returns false'. Refute it at one input. -/
def xtsSectorsWrong : ChangeSpec := { name := "xtsSectors", fn := fun _ => fun
  | [d1, d2, d3, d4] => { results := [.lit (.bool false)], args := [d1, d2, d3, d4] }
  | _ => none }
def XtsSectorsWrongFalsely : Prop := xtsSectorsRow.holds Try.pinned (OpenSpec.ofChange xtsSectorsWrong)

/-- 'priorylaw8.XtsUnits': WHATEVER THE INPUT: true; the input reads as it did. -/
def xtsUnitsSpec : ChangeSpec := { name := "xtsUnits", fn := fun _ => fun
  | [d1, d2, d3, d4] => { results := [.lit (.bool true)], args := [d1, d2, d3, d4] }
  | _ => none }
def xtsUnitsRow : OpenClaim := { program := "ytibfihjcjohadaa", sum := "815a1d016f78f7474cbf942f3d6f64c79fb017244eec733d95f587494271b9be", func := "priory/priorylaw8.XtsUnits", spec := "xtsUnits", unfollowed := true, recurses := true, apart := false }
def XtsUnitsSaid : Prop := xtsUnitsRow.holds Try.pinned (OpenSpec.ofChange xtsUnitsSpec)

/-- ITS FALSE NEIGHBOUR: 'it returns false'. Refute it at one input. -/
def xtsUnitsWrong : ChangeSpec := { name := "xtsUnits", fn := fun _ => fun
  | [d1, d2, d3, d4] => { results := [.lit (.bool false)], args := [d1, d2, d3, d4] }
  | _ => none }
def XtsUnitsWrongFalsely : Prop := xtsUnitsRow.holds Try.pinned (OpenSpec.ofChange xtsUnitsWrong)

/-- 'priorylaw8.XtsParts': WHATEVER THE INPUT: true; the input reads as it did. -/
def xtsPartsSpec : ChangeSpec := { name := "xtsParts", fn := fun _ => fun
  | [d1, d2, d3] => { results := [.lit (.bool true)], args := [d1, d2, d3] }
  | _ => none }
def xtsPartsRow : OpenClaim := { program := "ytibfihjcjohadaa", sum := "815a1d016f78f7474cbf942f3d6f64c79fb017244eec733d95f587494271b9be", func := "priory/priorylaw8.XtsParts", spec := "xtsParts", unfollowed := true, recurses := true, apart := false }
def XtsPartsSaid : Prop := xtsPartsRow.holds Try.pinned (OpenSpec.ofChange xtsPartsSpec)

/-- ITS FALSE NEIGHBOUR: 'it returns false'. Refute it at one input. -/
def xtsPartsWrong : ChangeSpec := { name := "xtsParts", fn := fun _ => fun
  | [d1, d2, d3] => { results := [.lit (.bool false)], args := [d1, d2, d3] }
  | _ => none }
def XtsPartsWrongFalsely : Prop := xtsPartsRow.holds Try.pinned (OpenSpec.ofChange xtsPartsWrong)

/- THE SECOND FORM. 'bulk': how many values and letters a reading holds, each counted each time it is reached (what is shared counts as often as it is met; a slice's spare places count too). A statement '..UptoSaid' is the law's where the arguments, and the package variables that the reading takes, are together of bulk at most 1048576: NARROWER than '..Said'. Prove '..Said' where nothing that the law and all that it calls make is longer than what came in: it says more and counts as full. Else prove '..UptoSaid'. A law counts once. -/
mutual
def uptoBulk {H : Type} : DataW H → Nat
  | .lit (.string bytes) => bytes.length + 1
  | .lit _ => 1
  | .nil => 1
  | .ptr d => uptoBulk d + 1
  | .slice elems spare => uptoBulkAll elems + uptoBulkAll spare + 1
  | .agg parts => uptoBulkAll parts + 1
  | .iface _ d => uptoBulk d + 1
  | .map entries => uptoBulkEntries entries + 1
  | .held _ => 1
def uptoBulkAll {H : Type} : List (DataW H) → Nat
  | [] => 0
  | d :: r => uptoBulk d + uptoBulkAll r
def uptoBulkEntries {H : Type} : List (Lit × DataW H) → Nat
  | [] => 0
  | x :: r => uptoBulkEntry x + uptoBulkEntries r
def uptoBulkEntry {H : Type} : Lit × DataW H → Nat
  | (.string bytes, d) => bytes.length + uptoBulk d + 1
  | (_, d) => uptoBulk d + 1
 end
def uptoSmall : (H : Type) → List (DataW H) → Bool := fun _ ds => decide (uptoBulkAll ds ≤ 1048576)
def OpenSpec.upto (s : _root_.Go.ChangeSpec) : _root_.Go.OpenSpec := { _root_.Go.OpenSpec.ofChange s with cond := some uptoSmall }

/-- 'priorylaw4.FieldLaws', WHERE WHAT IT READS IS OF BULK AT MOST 1048576: true; the input reads as it did. -/
def fieldLawsUptoRow : OpenClaim := { program := "ytibfihjcjohadaa", sum := "815a1d016f78f7474cbf942f3d6f64c79fb017244eec733d95f587494271b9be", func := "priory/priorylaw4.FieldLaws", spec := "fieldLaws", apart := false, narrowed := true }
def FieldLawsUptoSaid : Prop := fieldLawsUptoRow.holds Try.pinned (OpenSpec.upto fieldLawsSpec)

/-- 'priorylaw4.FieldPowers', WHERE WHAT IT READS IS OF BULK AT MOST 1048576: true; the input reads as it did. -/
def fieldPowersUptoRow : OpenClaim := { program := "ytibfihjcjohadaa", sum := "815a1d016f78f7474cbf942f3d6f64c79fb017244eec733d95f587494271b9be", func := "priory/priorylaw4.FieldPowers", spec := "fieldPowers", apart := false, narrowed := true }
def FieldPowersUptoSaid : Prop := fieldPowersUptoRow.holds Try.pinned (OpenSpec.upto fieldPowersSpec)

/-- 'priorylaw4.FieldSums', WHERE WHAT IT READS IS OF BULK AT MOST 1048576: true; the input reads as it did. -/
def fieldSumsUptoRow : OpenClaim := { program := "ytibfihjcjohadaa", sum := "815a1d016f78f7474cbf942f3d6f64c79fb017244eec733d95f587494271b9be", func := "priory/priorylaw4.FieldSums", spec := "fieldSums", apart := false, narrowed := true }
def FieldSumsUptoSaid : Prop := fieldSumsUptoRow.holds Try.pinned (OpenSpec.upto fieldSumsSpec)

/-- 'priorylaw4.FieldTwice', WHERE WHAT IT READS IS OF BULK AT MOST 1048576: true; the input reads as it did. -/
def fieldTwiceUptoRow : OpenClaim := { program := "ytibfihjcjohadaa", sum := "815a1d016f78f7474cbf942f3d6f64c79fb017244eec733d95f587494271b9be", func := "priory/priorylaw4.FieldTwice", spec := "fieldTwice", apart := false, narrowed := true }
def FieldTwiceUptoSaid : Prop := fieldTwiceUptoRow.holds Try.pinned (OpenSpec.upto fieldTwiceSpec)

/-- 'priorylaw4.FieldInverse', WHERE WHAT IT READS IS OF BULK AT MOST 1048576: true; the input reads as it did. -/
def fieldInverseUptoRow : OpenClaim := { program := "ytibfihjcjohadaa", sum := "815a1d016f78f7474cbf942f3d6f64c79fb017244eec733d95f587494271b9be", func := "priory/priorylaw4.FieldInverse", spec := "fieldInverse", apart := false, narrowed := true }
def FieldInverseUptoSaid : Prop := fieldInverseUptoRow.holds Try.pinned (OpenSpec.upto fieldInverseSpec)

/-- 'priorylaw7.TweakTells', WHERE WHAT IT READS IS OF BULK AT MOST 1048576: true; the input reads as it did. -/
def tweakTellsUptoRow : OpenClaim := { program := "ytibfihjcjohadaa", sum := "815a1d016f78f7474cbf942f3d6f64c79fb017244eec733d95f587494271b9be", func := "priory/priorylaw7.TweakTells", spec := "tweakTells", apart := false, narrowed := true }
def TweakTellsUptoSaid : Prop := tweakTellsUptoRow.holds Try.pinned (OpenSpec.upto tweakTellsSpec)

/-- 'priorylaw7.TweakBack', WHERE WHAT IT READS IS OF BULK AT MOST 1048576: true; the input reads as it did. -/
def tweakBackUptoRow : OpenClaim := { program := "ytibfihjcjohadaa", sum := "815a1d016f78f7474cbf942f3d6f64c79fb017244eec733d95f587494271b9be", func := "priory/priorylaw7.TweakBack", spec := "tweakBack", apart := false, narrowed := true }
def TweakBackUptoSaid : Prop := tweakBackUptoRow.holds Try.pinned (OpenSpec.upto tweakBackSpec)

/-- 'priorylaw7.TweakSums', WHERE WHAT IT READS IS OF BULK AT MOST 1048576: true; the input reads as it did. -/
def tweakSumsUptoRow : OpenClaim := { program := "ytibfihjcjohadaa", sum := "815a1d016f78f7474cbf942f3d6f64c79fb017244eec733d95f587494271b9be", func := "priory/priorylaw7.TweakSums", spec := "tweakSums", apart := false, narrowed := true }
def TweakSumsUptoSaid : Prop := tweakSumsUptoRow.holds Try.pinned (OpenSpec.upto tweakSumsSpec)

/-- 'priorylaw7.TweakNumbers', WHERE WHAT IT READS IS OF BULK AT MOST 1048576: true; the input reads as it did. -/
def tweakNumbersUptoRow : OpenClaim := { program := "ytibfihjcjohadaa", sum := "815a1d016f78f7474cbf942f3d6f64c79fb017244eec733d95f587494271b9be", func := "priory/priorylaw7.TweakNumbers", spec := "tweakNumbers", apart := false, narrowed := true }
def TweakNumbersUptoSaid : Prop := tweakNumbersUptoRow.holds Try.pinned (OpenSpec.upto tweakNumbersSpec)

/-- 'priorylaw7.TweakAround', WHERE WHAT IT READS IS OF BULK AT MOST 1048576: true; the input reads as it did. -/
def tweakAroundUptoRow : OpenClaim := { program := "ytibfihjcjohadaa", sum := "815a1d016f78f7474cbf942f3d6f64c79fb017244eec733d95f587494271b9be", func := "priory/priorylaw7.TweakAround", spec := "tweakAround", apart := false, narrowed := true }
def TweakAroundUptoSaid : Prop := tweakAroundUptoRow.holds Try.pinned (OpenSpec.upto tweakAroundSpec)

/-- 'priorylaw5.SboxTells', WHERE WHAT IT READS IS OF BULK AT MOST 1048576: true; the input reads as it did. -/
def sboxTellsUptoRow : OpenClaim := { program := "ytibfihjcjohadaa", sum := "815a1d016f78f7474cbf942f3d6f64c79fb017244eec733d95f587494271b9be", func := "priory/priorylaw5.SboxTells", spec := "sboxTells", apart := false, narrowed := true }
def SboxTellsUptoSaid : Prop := sboxTellsUptoRow.holds Try.pinned (OpenSpec.upto sboxTellsSpec)

/-- 'priorylaw5.SboxAll', WHERE WHAT IT READS IS OF BULK AT MOST 1048576: true; the input reads as it did. -/
def sboxAllUptoRow : OpenClaim := { program := "ytibfihjcjohadaa", sum := "815a1d016f78f7474cbf942f3d6f64c79fb017244eec733d95f587494271b9be", func := "priory/priorylaw5.SboxAll", spec := "sboxAll", apart := false, narrowed := true }
def SboxAllUptoSaid : Prop := sboxAllUptoRow.holds Try.pinned (OpenSpec.upto sboxAllSpec)

/-- 'priorylaw5.SboxRounds', WHERE WHAT IT READS IS OF BULK AT MOST 1048576: true; the input reads as it did. -/
def sboxRoundsUptoRow : OpenClaim := { program := "ytibfihjcjohadaa", sum := "815a1d016f78f7474cbf942f3d6f64c79fb017244eec733d95f587494271b9be", func := "priory/priorylaw5.SboxRounds", spec := "sboxRounds", apart := false, narrowed := true }
def SboxRoundsUptoSaid : Prop := sboxRoundsUptoRow.holds Try.pinned (OpenSpec.upto sboxRoundsSpec)

/-- 'priorylaw5.SboxShares', WHERE WHAT IT READS IS OF BULK AT MOST 1048576: true; the input reads as it did. -/
def sboxSharesUptoRow : OpenClaim := { program := "ytibfihjcjohadaa", sum := "815a1d016f78f7474cbf942f3d6f64c79fb017244eec733d95f587494271b9be", func := "priory/priorylaw5.SboxShares", spec := "sboxShares", apart := false, narrowed := true }
def SboxSharesUptoSaid : Prop := sboxSharesUptoRow.holds Try.pinned (OpenSpec.upto sboxSharesSpec)

/-- 'priorylaw5.SboxWords', WHERE WHAT IT READS IS OF BULK AT MOST 1048576: true; the input reads as it did. -/
def sboxWordsUptoRow : OpenClaim := { program := "ytibfihjcjohadaa", sum := "815a1d016f78f7474cbf942f3d6f64c79fb017244eec733d95f587494271b9be", func := "priory/priorylaw5.SboxWords", spec := "sboxWords", apart := false, narrowed := true }
def SboxWordsUptoSaid : Prop := sboxWordsUptoRow.holds Try.pinned (OpenSpec.upto sboxWordsSpec)

/-- 'priorylaw6.AesBack', WHERE WHAT IT READS IS OF BULK AT MOST 1048576: true; the input reads as it did. -/
def aesBackUptoRow : OpenClaim := { program := "ytibfihjcjohadaa", sum := "815a1d016f78f7474cbf942f3d6f64c79fb017244eec733d95f587494271b9be", func := "priory/priorylaw6.AesBack", spec := "aesBack", apart := false, narrowed := true }
def AesBackUptoSaid : Prop := aesBackUptoRow.holds Try.pinned (OpenSpec.upto aesBackSpec)

/-- 'priorylaw6.AesKnown', WHERE WHAT IT READS IS OF BULK AT MOST 1048576: true; the input reads as it did. -/
def aesKnownUptoRow : OpenClaim := { program := "ytibfihjcjohadaa", sum := "815a1d016f78f7474cbf942f3d6f64c79fb017244eec733d95f587494271b9be", func := "priory/priorylaw6.AesKnown", spec := "aesKnown", apart := false, narrowed := true }
def AesKnownUptoSaid : Prop := aesKnownUptoRow.holds Try.pinned (OpenSpec.upto aesKnownSpec)

/-- 'priorylaw6.AesApart', WHERE WHAT IT READS IS OF BULK AT MOST 1048576: true; the input reads as it did. -/
def aesApartUptoRow : OpenClaim := { program := "ytibfihjcjohadaa", sum := "815a1d016f78f7474cbf942f3d6f64c79fb017244eec733d95f587494271b9be", func := "priory/priorylaw6.AesApart", spec := "aesApart", apart := false, narrowed := true }
def AesApartUptoSaid : Prop := aesApartUptoRow.holds Try.pinned (OpenSpec.upto aesApartSpec)

/-- 'priorylaw6.AesBlocks', WHERE WHAT IT READS IS OF BULK AT MOST 1048576: true; the input reads as it did. -/
def aesBlocksUptoRow : OpenClaim := { program := "ytibfihjcjohadaa", sum := "815a1d016f78f7474cbf942f3d6f64c79fb017244eec733d95f587494271b9be", func := "priory/priorylaw6.AesBlocks", spec := "aesBlocks", apart := false, narrowed := true }
def AesBlocksUptoSaid : Prop := aesBlocksUptoRow.holds Try.pinned (OpenSpec.upto aesBlocksSpec)

/-- 'priorylaw6.AesKeys', WHERE WHAT IT READS IS OF BULK AT MOST 1048576: true; the input reads as it did. -/
def aesKeysUptoRow : OpenClaim := { program := "ytibfihjcjohadaa", sum := "815a1d016f78f7474cbf942f3d6f64c79fb017244eec733d95f587494271b9be", func := "priory/priorylaw6.AesKeys", spec := "aesKeys", apart := false, narrowed := true }
def AesKeysUptoSaid : Prop := aesKeysUptoRow.holds Try.pinned (OpenSpec.upto aesKeysSpec)

/-- 'priorylaw6.AesSchedule', WHERE WHAT IT READS IS OF BULK AT MOST 1048576: true; the input reads as it did. -/
def aesScheduleUptoRow : OpenClaim := { program := "ytibfihjcjohadaa", sum := "815a1d016f78f7474cbf942f3d6f64c79fb017244eec733d95f587494271b9be", func := "priory/priorylaw6.AesSchedule", spec := "aesSchedule", apart := false, narrowed := true }
def AesScheduleUptoSaid : Prop := aesScheduleUptoRow.holds Try.pinned (OpenSpec.upto aesScheduleSpec)

/-- 'priorylaw8.XtsBack', WHERE WHAT IT READS IS OF BULK AT MOST 1048576: true; the input reads as it did. -/
def xtsBackUptoRow : OpenClaim := { program := "ytibfihjcjohadaa", sum := "815a1d016f78f7474cbf942f3d6f64c79fb017244eec733d95f587494271b9be", func := "priory/priorylaw8.XtsBack", spec := "xtsBack", unfollowed := true, recurses := true, apart := false, narrowed := true }
def XtsBackUptoSaid : Prop := xtsBackUptoRow.holds Try.pinned (OpenSpec.upto xtsBackSpec)

/-- 'priorylaw8.XtsPrefix', WHERE WHAT IT READS IS OF BULK AT MOST 1048576: true; the input reads as it did. -/
def xtsPrefixUptoRow : OpenClaim := { program := "ytibfihjcjohadaa", sum := "815a1d016f78f7474cbf942f3d6f64c79fb017244eec733d95f587494271b9be", func := "priory/priorylaw8.XtsPrefix", spec := "xtsPrefix", unfollowed := true, recurses := true, apart := false, narrowed := true }
def XtsPrefixUptoSaid : Prop := xtsPrefixUptoRow.holds Try.pinned (OpenSpec.upto xtsPrefixSpec)

/-- 'priorylaw8.XtsKnown', WHERE WHAT IT READS IS OF BULK AT MOST 1048576: true; the input reads as it did. -/
def xtsKnownUptoRow : OpenClaim := { program := "ytibfihjcjohadaa", sum := "815a1d016f78f7474cbf942f3d6f64c79fb017244eec733d95f587494271b9be", func := "priory/priorylaw8.XtsKnown", spec := "xtsKnown", unfollowed := true, recurses := true, apart := false, narrowed := true }
def XtsKnownUptoSaid : Prop := xtsKnownUptoRow.holds Try.pinned (OpenSpec.upto xtsKnownSpec)

/-- 'priorylaw8.XtsSectors', WHERE WHAT IT READS IS OF BULK AT MOST 1048576: true; the input reads as it did. -/
def xtsSectorsUptoRow : OpenClaim := { program := "ytibfihjcjohadaa", sum := "815a1d016f78f7474cbf942f3d6f64c79fb017244eec733d95f587494271b9be", func := "priory/priorylaw8.XtsSectors", spec := "xtsSectors", unfollowed := true, recurses := true, apart := false, narrowed := true }
def XtsSectorsUptoSaid : Prop := xtsSectorsUptoRow.holds Try.pinned (OpenSpec.upto xtsSectorsSpec)

/-- 'priorylaw8.XtsUnits', WHERE WHAT IT READS IS OF BULK AT MOST 1048576: true; the input reads as it did. -/
def xtsUnitsUptoRow : OpenClaim := { program := "ytibfihjcjohadaa", sum := "815a1d016f78f7474cbf942f3d6f64c79fb017244eec733d95f587494271b9be", func := "priory/priorylaw8.XtsUnits", spec := "xtsUnits", unfollowed := true, recurses := true, apart := false, narrowed := true }
def XtsUnitsUptoSaid : Prop := xtsUnitsUptoRow.holds Try.pinned (OpenSpec.upto xtsUnitsSpec)

/-- 'priorylaw8.XtsParts', WHERE WHAT IT READS IS OF BULK AT MOST 1048576: true; the input reads as it did. -/
def xtsPartsUptoRow : OpenClaim := { program := "ytibfihjcjohadaa", sum := "815a1d016f78f7474cbf942f3d6f64c79fb017244eec733d95f587494271b9be", func := "priory/priorylaw8.XtsParts", spec := "xtsParts", unfollowed := true, recurses := true, apart := false, narrowed := true }
def XtsPartsUptoSaid : Prop := xtsPartsUptoRow.holds Try.pinned (OpenSpec.upto xtsPartsSpec)

end Rows
end Go.Proofs.Ytibfihjcjohadaa
