/- The law SyntaxParts over the calls of the program. -/
import Derived.Test.YtkcbomohgbafoaaDoorJa
import Derived.Test.YtkcbomohgbafoaaDoorDa
import Derived.Test.YtkcbomohgbafoaaDoorCards
import Derived.Test.YtkcbomohgbafoaaDoorTie
import Derived.Test.YtkcbomohgbafoaaDoorShelf
import Derived.WalkKit
import Derived.ProofKit
import Derived.OpenShut
import Derived.ShutString
import Derived.ChangeOld
import Derived.Carry
import Derived.Deep.DeepHandedRow
import Derived.Lib.LaidTab
namespace Go.Proofs.YtkcbomohgbafoaaDoor
open Go
theorem c3 {e : EX} (h : e.WF) : C.pure 3 [e.pd] = some (.ret [.bool true]) :=
  lim_pure rfl (parts_ok C hasL e h c8 (fun a ha => by
    rcases ha with rfl | ha
    · exact c9 h
    · exact c9 (EX.WF_args h a ha)) c10)
end Go.Proofs.YtkcbomohgbafoaaDoor
/- Each Arg of an expression that may be, may be; its print stands in the whole's. The law's row and card, over the calls of the program. -/
namespace Go.Proofs.YtkcbomohgbafoaaDoor.syntaxParts
open Go.Proofs.YtkcbomohgbafoaaDoor Go.ChangeShapes Go.WideShapes Go.ChangeAt Go.RowKit

theorem own : ownKnob Tryd.prog.godebug = none := by kernel_rfl
theorem laidOut : laidOutB Tryd.prog = true := by kernel_rfl

theorem has46 : ∃ fn, Tryd.prog.funcs[seat.fi 46]? = some fn ∧ (fn.name == "runtime.NumGoroutine") = false ∧ fn.body.isSome = true :=
  ⟨Tryd.f46, by rw [show seat.fi 46 = 46 by kernel_rfl]; exact Tryd.func46, by kernel_rfl, by kernel_rfl⟩
theorem has96 : ∃ fn, Tryd.prog.funcs[seat.fi 96]? = some fn ∧ (fn.name == "runtime.NumGoroutine") = false ∧ fn.body.isSome = true :=
  ⟨Tryd.f96, by rw [show seat.fi 96 = 96 by kernel_rfl]; exact Tryd.func96, by kernel_rfl, by kernel_rfl⟩
theorem lib {W : World} (hW : W.ShapedOpen Tryd.prog) : SoundC Tryd.prog seat W B := by
  refine ⟨fun f ds o h => ?_, fun f vs h pre o hh => ?_, fun f vs u h pre o hh => by simp [B] at hh, fun Y f vs h pre o hh => by simp [B] at hh⟩
  · simp only [B] at h
    split at h
    · split at h
      · rename_i ha
        simp only [Option.some.injEq] at h
        subst h
        exact contains_pure Tryd.laysM144 (by kernel_rfl) hW has46 ha
      · simp at h
    · split at h
      · rename_i ha
        simp only [Option.some.injEq] at h
        subst h
        exact quoted_pure Tryd.laysM155 Tryd.Builder_Extra_M155 (by kernel_rfl) hW has96 ha
      · simp at h
    · simp at h
  · simp only [B] at hh
    split at hh
    · split at hh
      · rename_i ha
        simp only [Option.some.injEq] at hh
        subst hh
        exact clone92 (f := 92) l92 n92 k92 ha.1 ha.2 _ _
      · simp at hh
    · simp at hh

def types : List TypeId := [26, 23, 3, 9, 24]
theorem closed : closedB Tryd.prog types = true := by kernel_rfl
theorem exprT : ExT Tryd.prog 26 24 := ⟨⟨3, 23, 9, _, _, Tryd.underlying26, rfl, Tryd.underlying23, rfl, Tryd.underlying3, Tryd.underlying9, Tryd.underlying24⟩⟩

set_option maxRecDepth 100000 in
theorem contract (H : Type) (enc : TypeId × Value → H) (W : World) (base : Nat) (args : Array Value) (ds gs : List (DataW H)) (before : List MemPlace)
    (hval0 : ∀ (j : Nat) t v, Tryd.f3.params[j]? = some t → args[j]? = some v → Value.okWide Tryd.prog W .any base t v)
    (hW : DataW.Whole enc Tryd.prog Tryd.f3.params.toList Rows.syntaxPartsSpec.vars false W args.toList ds gs before)
    (hsz0 : (DataW.weightsEach Tryd.prog (Tryd.f3.params.toList ++ Rows.syntaxPartsSpec.plain.varTypes Tryd.prog) (ds ++ gs)).all (· ≤ reachBytes) = true)
    (hsh : W.ShapedOpen Tryd.prog) :
    Calls Tryd.prog 3 args W fun e W' => ∃ v, e = .returned v ∧ Rows.syntaxPartsSpec.post enc Tryd.prog Tryd.f3 false true false false W args v W' := by
  have hval : ∀ (j : Nat) t v, Tryd.f3.params[j]? = some t → args[j]? = some v → Value.okWide Tryd.prog W .any base t v := hval0
  have hW' := hW
  obtain ⟨p, q, hA0, hV, rfl, hfz, hnd⟩ := hW
  have hA : DataW.TrodAll enc Tryd.prog W 0 (fun _ => true) true Tryd.f3.params.toList args.toList ds p := hA0
  rw [Tryd.params3] at hA hval hsz0
  obtain ⟨v0, vs0, d0, ds0, p0, q0, hargs, rfl, rfl, h0, r0⟩ := trodAll_cons hA
  obtain ⟨rfl, rfl, rfl⟩ := trodAll_nil r0
  obtain rfl : args = #[v0] := by cases args; simp_all
  obtain ⟨rfl, rfl⟩ := trodVars_none hV
  obtain ⟨cs, rfl, hcs⟩ := okWide_struct Tryd.underlying26 (hval 0 26 v0 rfl rfl)
  have k0 := h0
  have lt0 : ∀ x ∈ p0, x.block < W.heap.size := by obtain ⟨m, hm⟩ := k0; exact DataW.trod_lt m _ _ _ hm
  obtain ⟨fuel, hf⟩ := h0
  have hw0 : (DataW.weights Tryd.prog 26 d0).all (· ≤ reachBytes) = true := weightsEach_get hsz0 0 26 d0 rfl rfl
  obtain ⟨cells, g1, g2, g3⟩ := read_cells (Z := seat) closed fuel 26 cs.toList (d0, p0) (by decide) hf hw0
  obtain ⟨e, rfl, hwf⟩ := shp_expr exprT fuel cells g2
  have hR : RepVs seat (conf0 W).I [e.pd] (#[Value.agg cs] : Array Value).toList := by
    simp only [RepVs]
    refine ⟨_, [], rfl, ?_, rfl⟩
    rw [EX.pd_cells]
    simp only [RepD]
    exact ⟨cs, rfl, g3, g1⟩
  have hcall := door fits (lib hsh) (f := 3) rfl (c3 hwf) hR
  rw [show seat.fi 3 = 3 by kernel_rfl] at hcall
  refine hcall.mono fun e' W' ⟨he, bel⟩ => ?_
  subst he
  exact ⟨_, rfl, _, _, _, [], _, [], hW', trodAll_mk1 (shut_bool Tryd.underlying4 _), trodAll_cons_mk (Below.trod laidOut (by kernel_rfl) (of_decide_eq_true (by kernel_rfl)) k0 bel lt0) trodAll_mk0, rfl, bel.frame _, fun h => by cases h⟩

/-! ### a world for the witness -/
def flat1 : DataW Unit → List Value
  | .lit (.int k n) => [.int k n]
  | _ => []
def flat2 : DataW Unit → List Value
  | .agg l => l.flatMap fun
    | .agg m => m.flatMap flat1
    | d => flat1 d
  | d => flat1 d
def lay (d : DataW Unit) : Obj → Obj
  | .cells _ t frozen => .cells (flat2 d).toArray t frozen
  | o => o
noncomputable def laidWorld (os : Os) : World :=
  { World.holding Tryd.prog os ⟨#[], #[], []⟩ with heap := ((World.holding Tryd.prog os ⟨#[], #[], []⟩).heap.modify 1 (lay Rows.laid_unicode_utf8_first)).modify 2 (lay Rows.laid_unicode_utf8_acceptRanges) }
def arg0 : Value := .agg #[.int .i64 0, .int .i64 0, .int .i64 0, .string ByteArray.empty, .string ByteArray.empty, .string ByteArray.empty, .slice none 0 0]
set_option maxRecDepth 100000 in
theorem laid_met (os : Os) : laidMet Tryd.prog Rows.syntaxPartsRow.laid ((laidWorld os).forCall (fun _ _ => 0) ⟨#[], #[arg0], []⟩).memory :=
  laidMet_of_run' 8 (by kernel_rfl) (by kernel_rfl)
theorem reads (os : Os) {H : Type} (enc : TypeId × Value → H) : ∃ places, DataW.whole enc Tryd.prog ((laidWorld os).forCall (fun _ _ => 0) ⟨#[], #[arg0], []⟩).memory Tryd.f3.params.toList Rows.syntaxPartsSpec.vars false #[arg0].toList 8 =
    some ([.agg [.lit (.int .i64 0), .agg [.lit (.int .i64 0), .lit (.int .i64 0), .lit (.string [])], .lit (.string []), .lit (.string []), .nil]], [], places) :=
  ⟨[], by kernel_rfl⟩

set_option maxRecDepth 100000 in
theorem lifted (os : Os) (started : os.Started) (H : Type) (enc : TypeId × Value → H) (F : Stop.Interp) :
    ReturnsInHanded {} Tryd.checked os 3 .any ((OpenSpec.ofChange Rows.syntaxPartsSpec).preRow enc Tryd.prog Tryd.f3 Rows.syntaxPartsRow.domain false Rows.syntaxPartsRow.laid) (((OpenSpec.ofChange Rows.syntaxPartsSpec).at F).post enc Tryd.prog Tryd.f3 false true false false) := by
  obtain ⟨places, hx⟩ := reads os enc
  refine returnsInHanded_of_row (C := Tryd.checked) (s := OpenSpec.ofChange Rows.syntaxPartsSpec) own started (by kernel_rfl) Tryd.func3
    (witness_row_at (enc := enc) (C := Tryd.checked) false (laidWorld os) #[arg0] rfl (by kernel_rfl) (by kernel_rfl) (by kernel_rfl)
      (OpenSpec.preRow_of_cond 8 hx (by kernel_rfl) (fun k hk => by cases hk) (by kernel_rfl) (laid_met os))) ?_
  intro W base args ds gs before hval hW _ _ hsz _ hsh _
  exact contract H enc W base args ds gs before hval hW hsz hsh

theorem said : Rows.SyntaxPartsSaid :=
  OpenClaim.holds_of_cond 3 Tryd.f3 rfl rfl rfl rfl rfl rfl rfl ⟨rfl, rfl, rfl, rfl, rfl⟩ rfl rfl rfl rfl rfl (by kernel_rfl) Tryd.func3 (by kernel_rfl)
    (of_decide_eq_true (by kernel_rfl)) (by unfold Func.isWrapper; first | (rw [if_pos (by decide +kernel)]; kernel_rfl) | (rw [if_neg (by decide +kernel)]; exact ⟨rfl, rfl⟩))
    (fun os started H enc _ F => by rw [OpenClaim.pre_eq_preRow]; exact lifted os started H enc F)

theorem plain (f : FuncId) (fn : Func) (hf : Tryd.pinned.checked.prog.funcNamed "switchback/switchbacklaw04.SyntaxParts" = some f) (hfn : Tryd.pinned.checked.prog.funcs[f]? = some fn) :
    true = Tryd.pinned.checked.prog.looks [] ∧ ∀ (j : Nat) t, fn.params[j]? = some t → Tryd.pinned.checked.prog.wantsStandIn t = false := by
  obtain rfl : f = 3 := Option.some.inj ((show Tryd.prog.funcNamed "switchback/switchbacklaw04.SyntaxParts" = some 3 by kernel_rfl).symm.trans hf) |>.symm
  obtain rfl : fn = Tryd.f3 := (Option.some.inj (Tryd.func3.symm.trans hfn)).symm
  refine ⟨by kernel_rfl, fun j t ht => ?_⟩
  rw [Tryd.params3] at ht
  obtain rfl : t = 26 := by simpa using Array.mem_of_getElem? ht
  exact (show Tryd.prog.wantsStandIn 26 = false by kernel_rfl)

theorem card : Rows.SyntaxPartsCardSaid :=
  Claim7.holds_tied_plain_at .later [] _ _ _ _ said (fun _ h => by cases h) (by kernel_rfl) (fun _ h => by cases h) syntaxParts_row_tie rfl ⟨rfl, rfl⟩ (by kernel_rfl) rfl plain (by kernel_rfl)
end Go.Proofs.YtkcbomohgbafoaaDoor.syntaxParts
namespace Go.Proofs.YtkcbomohgbafoaaDoor
open Go.Proofs.YtkcbomohgbafoaaDoor
/-- The card, under a short name. -/
theorem syntaxParts_holds : Rows.SyntaxPartsCardSaid := syntaxParts.card
#print axioms syntaxParts_holds
end Go.Proofs.YtkcbomohgbafoaaDoor
