/-
  The facts on the program that every row asks and that no law bears on: its head, letter by letter; its make; that nothing bars an entry; and how a row's closed facts follow from the others. No condition.
-/
import Derived.Test.YtibfihjcjohadaaRows
import Derived.JoinedOf
import Derived.KernelRfl
namespace Go.Proofs.Ytibfihjcjohadaa
open Go
set_option linter.unusedVariables false
def headCodes : List Nat := [
  104, 97, 114, 110, 101, 115, 115, 32, 100, 99, 98, 54, 54, 56, 100, 97, 101, 55, 53, 97, 51, 97, 51, 50, 50, 102, 52, 49, 49, 57, 56, 55, 100, 52, 51, 51, 101, 51, 54, 97,
  51, 98, 56, 97, 49, 48, 52, 55, 99, 49, 54, 52, 100, 51, 56, 54, 97, 53, 57, 50, 54, 101, 99, 97, 100, 97, 102, 100, 100, 53, 51, 102, 32, 99, 117, 116, 32, 97, 116, 32,
  112, 114, 105, 111, 114, 121, 47, 112, 114, 105, 111, 114, 121, 108, 97, 119, 52, 46, 70, 105, 101, 108, 100, 76, 97, 119, 115, 32, 112, 114, 105, 111, 114, 121, 47, 112, 114, 105, 111, 114,
  121, 108, 97, 119, 52, 46, 70, 105, 101, 108, 100, 80, 111, 119, 101, 114, 115, 32, 112, 114, 105, 111, 114, 121, 47, 112, 114, 105, 111, 114, 121, 108, 97, 119, 52, 46, 70, 105, 101, 108,
  100, 83, 117, 109, 115, 32, 112, 114, 105, 111, 114, 121, 47, 112, 114, 105, 111, 114, 121, 108, 97, 119, 52, 46, 70, 105, 101, 108, 100, 84, 119, 105, 99, 101, 32, 112, 114, 105, 111, 114,
  121, 47, 112, 114, 105, 111, 114, 121, 108, 97, 119, 52, 46, 70, 105, 101, 108, 100, 73, 110, 118, 101, 114, 115, 101, 32, 112, 114, 105, 111, 114, 121, 47, 112, 114, 105, 111, 114, 121, 108,
  97, 119, 55, 46, 84, 119, 101, 97, 107, 84, 101, 108, 108, 115, 32, 112, 114, 105, 111, 114, 121, 47, 112, 114, 105, 111, 114, 121, 108, 97, 119, 55, 46, 84, 119, 101, 97, 107, 66, 97,
  99, 107, 32, 112, 114, 105, 111, 114, 121, 47, 112, 114, 105, 111, 114, 121, 108, 97, 119, 55, 46, 84, 119, 101, 97, 107, 83, 117, 109, 115, 32, 112, 114, 105, 111, 114, 121, 47, 112, 114,
  105, 111, 114, 121, 108, 97, 119, 55, 46, 84, 119, 101, 97, 107, 78, 117, 109, 98, 101, 114, 115, 32, 112, 114, 105, 111, 114, 121, 47, 112, 114, 105, 111, 114, 121, 108, 97, 119, 55, 46,
  84, 119, 101, 97, 107, 65, 114, 111, 117, 110, 100, 32, 112, 114, 105, 111, 114, 121, 47, 112, 114, 105, 111, 114, 121, 108, 97, 119, 53, 46, 83, 98, 111, 120, 84, 101, 108, 108, 115, 32,
  112, 114, 105, 111, 114, 121, 47, 112, 114, 105, 111, 114, 121, 108, 97, 119, 53, 46, 83, 98, 111, 120, 65, 108, 108, 32, 112, 114, 105, 111, 114, 121, 47, 112, 114, 105, 111, 114, 121, 108,
  97, 119, 53, 46, 83, 98, 111, 120, 82, 111, 117, 110, 100, 115, 32, 112, 114, 105, 111, 114, 121, 47, 112, 114, 105, 111, 114, 121, 108, 97, 119, 53, 46, 83, 98, 111, 120, 83, 104, 97,
  114, 101, 115, 32, 112, 114, 105, 111, 114, 121, 47, 112, 114, 105, 111, 114, 121, 108, 97, 119, 53, 46, 83, 98, 111, 120, 87, 111, 114, 100, 115, 32, 112, 114, 105, 111, 114, 121, 47, 112,
  114, 105, 111, 114, 121, 108, 97, 119, 54, 46, 65, 101, 115, 66, 97, 99, 107, 32, 112, 114, 105, 111, 114, 121, 47, 112, 114, 105, 111, 114, 121, 108, 97, 119, 54, 46, 65, 101, 115, 75,
  110, 111, 119, 110, 32, 112, 114, 105, 111, 114, 121, 47, 112, 114, 105, 111, 114, 121, 108, 97, 119, 54, 46, 65, 101, 115, 65, 112, 97, 114, 116, 32, 112, 114, 105, 111, 114, 121, 47, 112,
  114, 105, 111, 114, 121, 108, 97, 119, 54, 46, 65, 101, 115, 66, 108, 111, 99, 107, 115, 32, 112, 114, 105, 111, 114, 121, 47, 112, 114, 105, 111, 114, 121, 108, 97, 119, 54, 46, 65, 101,
  115, 75, 101, 121, 115, 32, 112, 114, 105, 111, 114, 121, 47, 112, 114, 105, 111, 114, 121, 108, 97, 119, 54, 46, 65, 101, 115, 83, 99, 104, 101, 100, 117, 108, 101, 32, 112, 114, 105, 111,
  114, 121, 47, 112, 114, 105, 111, 114, 121, 108, 97, 119, 56, 46, 88, 116, 115, 66, 97, 99, 107, 32, 112, 114, 105, 111, 114, 121, 47, 112, 114, 105, 111, 114, 121, 108, 97, 119, 56, 46,
  88, 116, 115, 80, 114, 101, 102, 105, 120, 32, 112, 114, 105, 111, 114, 121, 47, 112, 114, 105, 111, 114, 121, 108, 97, 119, 56, 46, 88, 116, 115, 75, 110, 111, 119, 110, 32, 112, 114, 105,
  111, 114, 121, 47, 112, 114, 105, 111, 114, 121, 108, 97, 119, 56, 46, 88, 116, 115, 83, 101, 99, 116, 111, 114, 115, 32, 112, 114, 105, 111, 114, 121, 47, 112, 114, 105, 111, 114, 121, 108,
  97, 119, 56, 46, 88, 116, 115, 85, 110, 105, 116, 115, 32, 112, 114, 105, 111, 114, 121, 47, 112, 114, 105, 111, 114, 121, 108, 97, 119, 56, 46, 88, 116, 115, 80, 97, 114, 116, 115]
theorem head_lit : "harness dcb668dae75a3a322f411987d433e36a3b8a1047c164d386a5926ecadafdd53f cut at priory/priorylaw4.FieldLaws priory/priorylaw4.FieldPowers priory/priorylaw4.FieldSums priory/priorylaw4.FieldTwice priory/priorylaw4.FieldInverse priory/priorylaw7.TweakTells priory/priorylaw7.TweakBack priory/priorylaw7.TweakSums priory/priorylaw7.TweakNumbers priory/priorylaw7.TweakAround priory/priorylaw5.SboxTells priory/priorylaw5.SboxAll priory/priorylaw5.SboxRounds priory/priorylaw5.SboxShares priory/priorylaw5.SboxWords priory/priorylaw6.AesBack priory/priorylaw6.AesKnown priory/priorylaw6.AesApart priory/priorylaw6.AesBlocks priory/priorylaw6.AesKeys priory/priorylaw6.AesSchedule priory/priorylaw8.XtsBack priory/priorylaw8.XtsPrefix priory/priorylaw8.XtsKnown priory/priorylaw8.XtsSectors priory/priorylaw8.XtsUnits priory/priorylaw8.XtsParts" = String.ofList (headCodes.map Char.ofNat) := by kernel_rfl
theorem head_is : Try.prog.initOrder = "harness dcb668dae75a3a322f411987d433e36a3b8a1047c164d386a5926ecadafdd53f cut at priory/priorylaw4.FieldLaws priory/priorylaw4.FieldPowers priory/priorylaw4.FieldSums priory/priorylaw4.FieldTwice priory/priorylaw4.FieldInverse priory/priorylaw7.TweakTells priory/priorylaw7.TweakBack priory/priorylaw7.TweakSums priory/priorylaw7.TweakNumbers priory/priorylaw7.TweakAround priory/priorylaw5.SboxTells priory/priorylaw5.SboxAll priory/priorylaw5.SboxRounds priory/priorylaw5.SboxShares priory/priorylaw5.SboxWords priory/priorylaw6.AesBack priory/priorylaw6.AesKnown priory/priorylaw6.AesApart priory/priorylaw6.AesBlocks priory/priorylaw6.AesKeys priory/priorylaw6.AesSchedule priory/priorylaw8.XtsBack priory/priorylaw8.XtsPrefix priory/priorylaw8.XtsKnown priory/priorylaw8.XtsSectors priory/priorylaw8.XtsUnits priory/priorylaw8.XtsParts" := by kernel_rfl
theorem head_text : Try.prog.initOrder = String.ofList (headCodes.map Char.ofNat) := head_is.trans head_lit
theorem head_signs : Try.prog.initOrder.toList = headCodes.map Char.ofNat := by
  rw [head_text, String.toList_ofList]

theorem head_cut : ∃ rest, behindMainWord (wordsSigns (headCodes.map Char.ofNat)) = "cut".toList :: rest := by
  have h : ((behindMainWord (wordsSigns (headCodes.map Char.ofNat))).head? == some "cut".toList) = true := by kernel_rfl
  have h2 := eq_of_beq h
  exact ⟨_, (List.head?_eq_some_iff.mp h2).choose_spec⟩
theorem g1 : ("cut".toList == "gc".toList || "cut".toList == "spec".toList) = false := by simp
theorem g2 : ("cut".toList == "cut".toList) = true := by simp
theorem g3 : ("cut".toList == "carried".toList) = false := by simp
theorem strip_cut (rest : List (List Char)) : stripLifts liftWords ("cut".toList :: rest) = ([], "cut".toList :: rest) := by
  simp [liftWords, stripLifts]
theorem make_of {P : Program} {L : List Char} {rest : List (List Char)} (h1 : P.initOrder.toList = L) (h2 : behindMainWord (wordsSigns L) = "cut".toList :: rest) : P.make = some .cut := by
  unfold Program.make
  rw [h1, h2]
  simp only [g1, g2, Bool.true_or, if_true, Bool.false_eq_true, if_false]
theorem lifted_of {P : Program} {L : List Char} {rest : List (List Char)} (h1 : P.initOrder.toList = L) (h2 : behindMainWord (wordsSigns L) = "cut".toList :: rest) : P.liftsFinal = false := by
  unfold Program.liftsFinal Program.headLifts
  rw [h1, h2, strip_cut]
  simp
theorem enter_of {P : Program} {L : List Char} {rest : List (List Char)} (h1 : P.initOrder.toList = L) (h2 : behindMainWord (wordsSigns L) = "cut".toList :: rest)
    (h3 : P.laysLater = false) (h4 : P.bearsReflect = false) (h5 : P.doorFits [] = true) : P.mayEnter = true := by
  unfold Program.mayEnter
  rw [h1, h2]
  simp only [strip_cut, h3, h4, h5]
  simp
theorem fact_later : Try.prog.laysLater = false := by kernel_rfl
theorem fact_reflect : Try.prog.bearsReflect = false := by kernel_rfl
theorem fact_door : Try.prog.doorFits [] = true := by kernel_rfl
theorem fact_enter : Try.prog.mayEnter = true := head_cut.elim fun _ h => enter_of head_signs h fact_later fact_reflect fact_door
theorem fact_lifted : Try.prog.liftsFinal = false := head_cut.elim fun _ h => lifted_of head_signs h
theorem fact_make : Try.prog.make = some .cut := head_cut.elim fun _ h => make_of head_signs h
theorem joined_of {P : Program} {f : FuncId} {fn : Func} {s : ChangeSpec} {c : OpenClaim} (h25 : P.mayEnter = true) (h26 : (c.lifted == P.liftsFinal) = true) (h27 : (P.make == some c.make) = true)
    (h : (c.wf (OpenSpec.ofChange s) && laidOutB P && mapsRowed P && fn.params.all (P.readableRec ·) && namedTie P c.named s.vars && (c.stops == []) && (P.stops == []) && (c.knobs == []) && (P.stopKnobs == []) && (c.inPlace == P.inPlace f) && (c.unfollowed == P.unfollowed f) && (c.recurses == P.recurses f) && (c.named == P.varsNamed f) && (c.maps == (fn.params.toList ++ s.plain.varTypes P).any (P.mapsRec ·)) && (c.ifaces == (fn.params.toList ++ s.plain.varTypes P).any (P.ifacesRec ·)) && (c.mapsOut == P.mapsAmong fn.resultTypes.toList) && (c.loops == (fn.params.toList ++ s.plain.varTypes P).any (P.loopsFrom ·)) && (c.wideKeys == (fn.params.toList ++ s.plain.varTypes P ++ fn.resultTypes.toList).any (P.wideKeysFrom ·)) && s.vars.all (P.varReadable ·) && fn.resultTypes.all (fun t => P.readableRec t && decide (t < P.types.size)) && (c.ifacesOut == fn.resultTypes.toList.any (P.ifacesRec ·)) && (c.loopsOut == fn.resultTypes.toList.any (P.loopsFrom ·)) && (c.plainKeys == P.plainKeys) && c.shortTexts.isNone && P.stopsHeard && (c.kinds == (if c.domain.isEmpty then [] else fn.params.toList.map fun t => match P.underlying t with | some (.int k) => some k | _ => none)) && (c.pinned == c.pinnedBy) && (c.veiled == (fn.params.toList ++ s.plain.varTypes P ++ fn.resultTypes.toList).any (P.veiledRec ·)) && c.veiledFits P fn.params.toList (fn.params.toList ++ s.plain.varTypes P ++ fn.resultTypes.toList) : Bool) = true) : joinedFacts P f fn s c = true := by
  unfold joinedFacts
  simp only [Bool.and_eq_true] at h ⊢
  simp only [h25, h26, h27, and_true]
  exact h
end Go.Proofs.Ytibfihjcjohadaa
