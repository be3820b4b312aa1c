/- Part of the text. -/
import Derived.Test.YtkcbomohgbafoaaDoorEc
import Derived.Recover
import Derived.RangeFuncIn
import Derived.RangeFuncRecord
import Derived.RangeFuncLeaves
import Derived.TacticsIn
import Derived.OrdersIn
import Derived.DefersIn
import Derived.ScopeJumps
import Derived.Orders
set_option linter.unusedVariables false
set_option linter.unusedSimpArgs false
namespace Go.Proofs.YtkcbomohgbafoaaDoor
open Go

/-- What a call comes to: of a function with a body, or of one that the model gives. -/
def Reaches (P : Program) (f : FuncId) (args : Array Value) (w : World) (R : Ending → World → Prop) : Prop :=
  (∃ fn, P.funcs[f]? = some fn ∧ (fn.name == "runtime.NumGoroutine") = false ∧ fn.body.isSome = true ∧ Calls P f args w R) ∨ ∃ v w', (callFunc f args).run P w = .ok (.value v) w' ∧ R (.returned v) w'

/-- All that lay in memory at the start lies there still, and is no object of the evaluator's. -/
structure Under (w0 : World) (c : Conf) : Prop where
  size : w0.heap.size ≤ c.w.heap.size
  at' : ∀ b, b < w0.heap.size → c.w.heap[b]? = w0.heap[b]?
  obj : ∀ i o, c.H i = some o → w0.heap.size ≤ objBlk c.g i o

theorem Under.step {w0 : World} {c c' : Conf} (h : Under w0 c) (hs : Step c c') : Under w0 c' := by
  refine ⟨Nat.le_trans h.size hs.ev.size, fun b hb => ?_, fun i o hi => ?_⟩
  · rw [(hs.frame b (Nat.lt_of_lt_of_le hb h.size) (fun i o hi e => by have := h.obj i o hi; omega)).1]
    exact h.at' b hb
  · rcases hs.own i o hi with h1 | ⟨j, o', h1, h2⟩
    · exact Nat.le_trans h.size h1
    · rw [← h2]; exact h.obj j o' h1

theorem Under.empty {w0 : World} {c : Conf} (h : Under w0 c) (g : Gh) : Under w0 ⟨g, c.w, emptyH⟩ := ⟨h.size, h.at', fun i o hi => by simp [emptyH] at hi⟩

section
variable (P : Program) (Z : Seat) (w0 : World)

def OutOK (c : Conf) : Out → Ending → Prop
  | .ret v, .returned x => RepR Z c v x
  | .pan d, .panicked ch => ∃ x, ch = [{ v := x, recovered := false }] ∧ RepD Z c.I d x
  | _, _ => False

def POut.out : POut → Out
  | .ret l => .ret (outV l)
  | .pan d => .pan d

/-- A contract of a call that only takes and gives pure values. -/
def PureOK (f : Nat) (ds : List PD) (out : POut) : Prop :=
  ∀ (c : Conf) (args : Array Value), Under w0 c → c.H = emptyH → RepVs Z c.I ds args.toList →
    Reaches P (Z.fi f) args c.w fun e w' => ∃ g', Step c ⟨g', w', emptyH⟩ ∧ OutOK Z ⟨g', w', emptyH⟩ out.out e

/-- A contract of any call. -/
def SharedOK (f : Nat) (vs : List RV) (h : Id → Option AObj) (pre : Id) (r : Out × (Id → Option AObj)) : Prop :=
  ∀ (c : Conf) (args : Array Value), Under w0 c → c.H = h → HeapOK Z c → (∀ i, c.g.D i → ¬ pre <+: i) → RepRs Z c vs args.toList →
    Reaches P (Z.fi f) args c.w fun e w' => ∃ g', Step c ⟨g', w', r.2⟩ ∧ HeapOK Z ⟨g', w', r.2⟩ ∧ (∀ j, g'.D j → c.g.D j ∨ pre <+: j) ∧ OutOK Z ⟨g', w', r.2⟩ r.1 e

def ModeR (c : Conf) (u : Option PD) (um : FrameMode) : Prop :=
  match u with
  | none => um = .returning
  | some d => ∃ x, um = .panicking [{ v := x, recovered := false }] ∧ RepD Z c.I d x

/-- A contract of a deferred call, that recovers. -/
def DfrOK (f : Nat) (vs : List RV) (u : Option PD) (h : Id → Option AObj) (pre : Id) (h' : Id → Option AObj) : Prop :=
  ∀ (c : Conf) (args : Array Value) (um : FrameMode), Under w0 c → c.H = h → HeapOK Z c → (∀ i, c.g.D i → ¬ pre <+: i) → RepRs Z c vs args.toList → ModeR Z c u um →
    ∃ fn, P.funcs[Z.fi f]? = some fn ∧ (fn.name == "runtime.NumGoroutine") = false ∧ fn.body.isSome = true ∧ CallsDIn Fence.wide 0 P (Z.fi f) args um c.w fun e u' w' =>
      (∃ v, e = .returned v) ∧ settle u' = .returning ∧ ∃ g', Step c ⟨g', w', h'⟩ ∧ HeapOK Z ⟨g', w', h'⟩ ∧ ∀ j, g'.D j → c.g.D j ∨ pre <+: j

/-- What a call of a yield comes to, in all configurations that have come of bc. -/
def YieldOK (bc : Conf) (r : Id) (vs : List RV) (h : Heap) (id : Id) (v : RV) (h' : Heap) : Prop :=
  ∀ (c : Conf) (args : Array Value), Under w0 c → Evolve bc c → c.H = h → HeapOK Z c → (∀ i, c.g.D i → ¬ id <+: i) → RepRs Z c vs args.toList → c.g.D r →
    ∃ fn tmps assign body, (Instr.yield (c.g.blk r) args).run P c.w = .ok (.round (c.g.blk r) fn tmps assign body) c.w ∧ RoundIn Fence.wide 0 P (c.g.blk r) fn tmps assign body c.w fun e w' =>
      ∃ x, e = .returned x ∧ ∃ g', Step c ⟨g', w', h'⟩ ∧ HeapOK Z ⟨g', w', h'⟩ ∧ (∀ j, g'.D j → c.g.D j ∨ id <+: j) ∧ RepR Z ⟨g', w', h'⟩ v x

def YieldC (bc : Conf) (Y : Yld) : Prop := ∀ r vs h id v h', Y r vs h id = some (v, h') → YieldOK P Z w0 bc r vs h id v h'

/-- A contract of a call that is handed a yield. -/
def IterOK (Y : Yld) (f : Nat) (vs : List RV) (h : Heap) (pre : Id) (r : Out × Heap) : Prop :=
  ∀ (bc : Conf), YieldC P Z w0 bc Y → ∀ (c : Conf) (args : Array Value), Under w0 c → Evolve bc c → c.H = h → HeapOK Z c → (∀ i, c.g.D i → ¬ pre <+: i) → RepRs Z c vs args.toList →
    ∃ fn, P.funcs[Z.fi f]? = some fn ∧ (fn.name == "runtime.NumGoroutine") = false ∧ fn.body.isSome = true ∧ Calls P (Z.fi f) args c.w fun e w' =>
      ∃ g', Step c ⟨g', w', r.2⟩ ∧ HeapOK Z ⟨g', w', r.2⟩ ∧ (∀ j, g'.D j → c.g.D j ∨ pre <+: j) ∧ OutOK Z ⟨g', w', r.2⟩ r.1 e

structure SoundC (C : Calls') : Prop where
  pure : ∀ f ds out, C.pure f ds = some out → PureOK P Z w0 f ds out
  shared : ∀ f vs h pre r, C.shared f vs h pre = some r → SharedOK P Z w0 f vs h pre r
  dfr : ∀ f vs u h pre h', C.dfr f vs u h pre = some h' → DfrOK P Z w0 f vs u h pre h'
  iter : ∀ Y f vs h pre r, C.iter Y f vs h pre = some r → IterOK P Z w0 Y f vs h pre r

/-- Sound calls, and sound yields of bc. -/
structure SoundB (bc : Conf) (C : Calls') : Prop where
  s : SoundC P Z w0 C
  y : YieldC P Z w0 bc C.yield
end

section
variable {P : Program} {Z : Seat} {c : Conf} {id : Id} {s s' : St} {a : Act} {o : Oper} {io : IOp} {v : RV} {C : Calls'}

theorem allData_data : ∀ l : List PD, allData (l.map .data) = some l
  | [] => rfl
  | d :: r => by simp only [List.map_cons, allData, allData_data r, Option.bind_some]

/-- Pure values are read in any configuration with the same view. -/
theorem RepR.outV {c c' : Conf} (h : c.I.le c'.I) : ∀ {l : List PD} {x : Value}, RepR Z c (outV l) x → RepR Z c' (outV l) x
  | [], x, hx => by
    simp only [YtkcbomohgbafoaaDoor.outV, RepR, List.map_nil] at hx ⊢
    obtain ⟨vs, rfl, h1⟩ := hx
    exact ⟨vs, rfl, by simpa only [RepRs] using h1⟩
  | [d], x, hx => by simp only [YtkcbomohgbafoaaDoor.outV, RepR] at hx ⊢; exact RepD.mono Z h d x hx
  | d :: e :: r, x, hx => by
    simp only [YtkcbomohgbafoaaDoor.outV, RepR] at hx ⊢
    obtain ⟨vs, rfl, h1⟩ := hx
    exact ⟨vs, rfl, RepRs.of_data Z (RepVs.mono Z h _ _ (RepVs.of_allData Z (allData_data _) h1))⟩

theorem Step.pureCall (hH : HeapOK Z c) {g' : Gh} {w' : World} (h : Step ⟨c.g, c.w, emptyH⟩ ⟨g', w', emptyH⟩) : Step c ⟨{ c.g with imm := g'.imm }, w', c.H⟩ ∧ HeapOK Z ⟨{ c.g with imm := g'.imm }, w', c.H⟩ :=
  Step.world Z hH h.ev.size (fun b hb => (h.frame b hb (fun i o hi => by simp [emptyH] at hi)).1) (fun b hb => (h.frame b hb (fun i o hi => by simp [emptyH] at hi)).2) h.os h.tape h.output

/-- Some of the evaluator's objects are forgotten. -/
theorem Step.forget {c c' : Conf} (hS : Step c c') (hH : HeapOK Z c') {H : Id → Option AObj} (h : ∀ i o, H i = some o → c'.H i = some o) : Step c ⟨c'.g, c'.w, H⟩ ∧ HeapOK Z ⟨c'.g, c'.w, H⟩ := by
  have ev : Evolve c' ⟨c'.g, c'.w, H⟩ := ⟨fun _ h => h, fun _ _ => rfl, IView.le_refl _, fun t _ e sz n ht => ⟨n, h _ _ ht, Nat.le_refl _, fun _ => ⟨rfl, rfl⟩⟩, Nat.le_refl _, fun _ _ => rfl⟩
  have hS' : Step c' ⟨c'.g, c'.w, H⟩ := ⟨ev, fun _ _ _ => ⟨rfl, rfl⟩, fun i o hi => .inr ⟨i, o, h i o hi, rfl⟩, rfl, rfl, rfl⟩
  refine ⟨hS.trans hS', fun i o hi => ?_, fun i j o o' hi hj e => hH.one i j o o' (h i o hi) (h j o' hj) e⟩
  obtain ⟨hD, hr⟩ := hH.obj i o (h i o hi)
  exact ⟨hD, ObjR.kept Z ev hr hD (fun _ _ _ _ => ⟨rfl, rfl⟩) rfl rfl⟩

theorem drop_some {p : Id} {h : Id → Option AObj} {i : Id} {o : AObj} (hi : drop p h i = some o) : h i = some o := by
  unfold drop at hi
  split at hi
  · simp at hi
  · exact hi

theorem run_callFunc {fn : Func} {f : FuncId} {args : Array Value} (hf : P.funcs[f]? = some fn) (hn : (fn.name == "runtime.NumGoroutine") = false) (hb : fn.body.isSome = true) (w : World) : (callFunc f args).run P w = .ok (.enter f args) w := by
  have hn' : ¬ fn.name = "runtime.NumGoroutine" := by simpa using hn
  have hb' : ¬ fn.body = none := by intro h; simp [h] at hb
  simp [callFunc, hf, hn', hb']

/-- An operation whose run is a call. -/
theorem wp_reaches {f : FuncId} {args : Array Value} {w : World} {R : Ending → World → Prop} (h : Reaches P f args w R) (hr : (execOp a.eval o).run P w = (callFunc f args).run P w) {K : Act → World → Prop} {Q : Exit → Act → World → Prop}
    (hk : ∀ x w', R (.returned x) w' → K (a.put o.dst x) w') (hp : ∀ ch w', R (.panicked ch) w' → Q (.panic ch) a w') (ho : ∀ w', ¬ R .outgrown w') : o.wp P a w K Q := by
  unfold Oper.wp
  rw [hr]
  rcases h with ⟨fn, hf, hn, hb, hc⟩ | ⟨x, w', hx, hR⟩
  · rw [run_callFunc hf hn hb]
    rw [Oper.upon_enter]
    refine hc.mono fun e w' hR => ?_
    cases e with
    | returned x => exact hk _ _ hR
    | panicked ch => exact hp _ _ hR
    | outgrown => exact absurd hR (ho _)
  · rw [hx, Oper.upon_value]
    exact hk _ _ hR

/-- What has to be shown behind an operation. -/
structure Behind (P : Program) (Z : Seat) (c : Conf) (id : Id) (s : St) (a : Act) (o : Oper) (r : OpOut) (K : Act → World → Prop) (Q : Exit → Act → World → Prop) : Prop where
  val : ∀ v s', r = .val v s' → ∀ vv w' g' a1, Step c ⟨g', w', s'.heap⟩ → HeapOK Z ⟨g', w', s'.heap⟩ → RepR Z ⟨g', w', s'.heap⟩ v vv → (∀ j, g'.D j → c.g.D j ∨ id <+: j) → s'.env = s.env → s'.pre = s.pre → s'.next = s.next →
    a1.tmps = (a.put o.dst vv).tmps → DfsR Z ⟨g', w', s'.heap⟩ s'.dfs a1.defers → s'.rv = none → K a1 w'
  pan : ∀ d s', r = .pan d s' → ∀ x w' g', Step c ⟨g', w', s'.heap⟩ → HeapOK Z ⟨g', w', s'.heap⟩ → RepD Z (view g' w') d x → (∀ j, g'.D j → c.g.D j ∨ id <+: j) → s'.env = s.env → s'.pre = s.pre → s'.next = s.next → s'.dfs = s.dfs → s'.rv = s.rv → Q (.panic [{ v := x, recovered := false }]) a w'

theorem put_defers (a : Act) (d : Option Tmp) (v : Value) : (a.put d v).defers = a.defers := by cases d <;> rfl

theorem Done.wp (pr : Pre Z c id s a) {K : Act → World → Prop} {Q : Exit → Act → World → Prop} (h : Done Z c id s s' v ((execOp a.eval o).run P c.w)) (hb : Behind P Z c id s a o (.val v s') K Q) : o.wp P a c.w K Q := by
  obtain ⟨vv, w', g', hr, h1, h2, h3, h4, h5, h6, h7, h8, h9⟩ := h
  unfold Oper.wp
  have hk := hb.val v s' rfl vv w' g' (a.put o.dst vv) h1 h2 h3 h4 h5 h6 h7 rfl (by rw [h8, put_defers]; exact pr.dfs.mono h1.ev) (by rw [h9]; exact pr.rv)
  rcases hr with hr | ⟨hr, rfl⟩
  · rw [hr, Oper.upon_value]; exact hk
  · rw [hr, Oper.upon_skip]; exact hk

/-- A call. -/
theorem wp_doCall {w0 : World} {bc : Conf} (hC : SoundB P Z w0 bc C) (hE : Evolve bc c) (hU : Under w0 c) (pr : Pre Z c id s a) {f : Nat} {vs : List RV} {args : Array Value} (hR : RepRs Z c vs args.toList) {r : OpOut} (he : doCall C id f vs s = some r) (hr : (execOp a.eval o).run P c.w = (callFunc (Z.fi f) args).run P c.w)
    {K : Act → World → Prop} {Q : Exit → Act → World → Prop} (hb : Behind P Z c id s a o r K Q) : o.wp P a c.w K Q := by
  unfold doCall at he
  split at he
  · rename_i ds hds
    replace hds : toDs vs = some ds := by
      split at hds
      · simp at hds
      · exact hds
    simp only [Option.bind_eq_some_iff] at he
    obtain ⟨out, h1, h2⟩ := he
    have hP := hC.s.pure f ds out h1 ⟨c.g, c.w, emptyH⟩ args (hU.empty _) rfl (RepVs.of_toDs (c := c) Z hds hR)
    refine wp_reaches hP hr (fun x w' hx => ?_) (fun ch w' hx => ?_) (fun w' hx => ?_)
    · obtain ⟨g', hS, hO⟩ := hx
      have hst := Step.pureCall pr.heap hS
      cases out with
      | ret l =>
        simp only [Option.some.injEq] at h2
        subst h2
        refine hb.val _ _ rfl x w' { c.g with imm := g'.imm } (a.put o.dst x) (by rw [← pr.H]; exact hst.1) (by rw [← pr.H]; exact hst.2) ?_ (fun j hj => .inl hj) rfl rfl rfl rfl (by rw [put_defers, ← pr.H]; exact pr.dfs.mono hst.1.ev) pr.rv
        simp only [POut.out, OutOK] at hO
        exact RepR.outV (c := ⟨g', w', emptyH⟩) (c' := ⟨{ c.g with imm := g'.imm }, w', s.heap⟩) (fun b o v hv => hv) hO
      | pan d => simp [POut.out, OutOK] at hO
    · obtain ⟨g', hS, hO⟩ := hx
      have hst := Step.pureCall pr.heap hS
      cases out with
      | ret l => simp [POut.out, OutOK] at hO
      | pan d =>
        simp only [Option.some.injEq] at h2
        subst h2
        simp only [POut.out, OutOK] at hO
        obtain ⟨y, rfl, hy⟩ := hO
        exact hb.pan _ _ rfl y w' { c.g with imm := g'.imm } (by rw [← pr.H]; exact hst.1) (by rw [← pr.H]; exact hst.2) hy (fun j hj => .inl hj) rfl rfl rfl rfl rfl
    · obtain ⟨g', hS, hO⟩ := hx
      cases out <;> simp [POut.out, OutOK] at hO
  · simp only [Option.bind_eq_some_iff, Option.map_eq_some_iff] at he
    obtain ⟨r2, ⟨⟨out, h⟩, h1, h2⟩, h3⟩ := he
    have hP : Reaches P (Z.fi f) args c.w fun e w' => ∃ g', Step c ⟨g', w', h⟩ ∧ HeapOK Z ⟨g', w', h⟩ ∧ (∀ j, g'.D j → c.g.D j ∨ id <+: j) ∧ OutOK Z ⟨g', w', h⟩ out e := by
      split at h1
      · obtain ⟨fn, k1, k2, k3, k4⟩ := hC.s.iter C.yield f vs s.heap id _ h1 bc hC.y c args hU hE pr.H pr.heap pr.fresh hR
        exact .inl ⟨fn, k1, k2, k3, k4⟩
      · exact hC.s.shared f vs s.heap id _ h1 c args hU pr.H pr.heap pr.fresh hR
    refine wp_reaches hP hr (fun x w' hx => ?_) (fun ch w' hx => ?_) (fun w' hx => ?_)
    · obtain ⟨g', hS, hH, hD, hO⟩ := hx
      cases out with
      | ret v =>
        simp only [after] at h2
        subst h2
        simp only [Option.some.injEq] at h3
        subst h3
        simp only [OutOK] at hO
        have hf := Step.forget hS hH (H := if noIds v then drop id h else h) (by
          intro i o hi
          split at hi
          · exact drop_some hi
          · exact hi)
        have ev : Evolve ⟨g', w', h⟩ ⟨g', w', if noIds v then drop id h else h⟩ := ⟨fun _ h => h, fun _ _ => rfl, IView.le_refl _, fun t _ e sz n ht => ⟨n, by
          simp only at ht
          split at ht
          · exact drop_some ht
          · exact ht, Nat.le_refl _, fun _ => ⟨rfl, rfl⟩⟩, Nat.le_refl _, fun _ _ => rfl⟩
        exact hb.val _ _ rfl x w' g' (a.put o.dst x) hf.1 hf.2 (RepR.mono Z ev _ _ hO) hD rfl rfl rfl rfl (by rw [put_defers]; exact pr.dfs.mono hf.1.ev) pr.rv
      | pan d => simp [OutOK] at hO
    · obtain ⟨g', hS, hH, hD, hO⟩ := hx
      cases out with
      | ret v => simp [OutOK] at hO
      | pan d =>
        simp only [after] at h2
        subst h2
        simp only [Option.some.injEq] at h3
        subst h3
        simp only [OutOK] at hO
        obtain ⟨y, rfl, hy⟩ := hO
        have hf := Step.forget hS hH (H := drop id h) (fun i o hi => drop_some hi)
        exact hb.pan _ _ rfl y w' g' hf.1 hf.2 hy hD rfl rfl rfl rfl rfl
    · obtain ⟨g', hS, hH, hD, hO⟩ := hx
      cases out <;> simp [OutOK] at hO

end
end Go.Proofs.YtkcbomohgbafoaaDoor
/- Part of the text. -/
set_option linter.unusedVariables false
set_option linter.unusedSimpArgs false
namespace Go.Proofs.YtkcbomohgbafoaaDoor
open Go

/-- No call, no panic. -/
def plainOp : IOp → Bool
  | .call .. | .callv .. | .panic _ => false
  | _ => true

theorem ev_val {C : Calls'} {id : Id} {io : IOp} {s : St} {r : OpOut} (he : evOp C id io s = some r) (hp : plainOp io = true) : ∃ v s', r = .val v s' := by
  cases r with
  | val v s' => exact ⟨v, s', rfl⟩
  | pan d s' =>
    exfalso
    cases io <;> simp only [plainOp, Bool.false_eq_true] at hp <;> simp only [evOp, val, Option.bind_eq_some_iff, Option.some.injEq, reduceCtorEq, and_false, exists_false] at he
    all_goals (repeat' (first | (obtain ⟨_, _, he⟩ := he) | (split at he) | (simp only [evOp, val, Option.bind_eq_some_iff, Option.some.injEq, reduceCtorEq, and_false, exists_false] at he)))

section
variable {P : Program} {Z : Seat} {c : Conf} {id : Id} {s s' : St} {a : Act} {o : Oper} {io : IOp} {v : RV} {C : Calls'}

theorem cEq_sound (pr : Pre Z c id s a) {ne : Bool} {t yt : TypeId} {x y : Operand} (hop : o.op = .binOp (if ne then .neq else .eql) t x y yt) (ho : cEq P Z ne t x y = some io) {r : OpOut} (he : evOp C id io s = some r) {K : Act → World → Prop} {Q : Exit → Act → World → Prop} (hb : Behind P Z c id s a o r K Q) : o.wp P a c.w K Q := by
  unfold cEq at ho
  simp only [Option.bind_eq_some_iff] at ho
  obtain ⟨ix, h1, iy, h2, h3⟩ := ho
  split at h3
  · simp only [Option.some.injEq] at h3; subst h3
    obtain ⟨v, s', rfl⟩ := ev_val he rfl
    exact (opBin pr h1 h2 hop he).wp pr hb
  · simp only [Option.some.injEq] at h3; subst h3
    obtain ⟨v, s', rfl⟩ := ev_val he rfl
    exact (opBin pr h1 h2 hop he).wp pr hb
  · rename_i ht
    simp only [Option.some.injEq] at h3; subst h3
    obtain ⟨v, s', rfl⟩ := ev_val he rfl
    exact (opEqB pr h1 h2 ht hop he).wp pr hb
  · rename_i fs ht
    split at h3
    · simp at h3
    · rename_i hg
      simp only [Option.map_eq_some_iff] at h3
      obtain ⟨ks, h4, rfl⟩ := h3
      obtain ⟨v, s', rfl⟩ := ev_val he rfl
      simp only [Bool.or_eq_true, not_or, Bool.not_eq_true] at hg
      exact (opEqA pr h1 h2 ht hg.1 hg.2 h4 hop he).wp pr hb
  · rename_i ms ht
    split at h3
    · rename_i hn
      simp only [Option.some.injEq] at h3; subst h3
      obtain ⟨v, s', rfl⟩ := ev_val he rfl
      simp only [Bool.or_eq_true] at hn
      exact (opEqN pr h1 h2 ht hn hop he).wp pr hb
    · simp at h3
  · rename_i e ht
    split at h3
    · rename_i hn
      simp only [Option.some.injEq] at h3; subst h3
      obtain ⟨v, s', rfl⟩ := ev_val he rfl
      exact (opEqL pr h1 ht hn hop he).wp pr hb
    · simp at h3
  · simp at h3

end
end Go.Proofs.YtkcbomohgbafoaaDoor
/- Part of the text. -/
set_option linter.unusedVariables false
set_option linter.unusedSimpArgs false
namespace Go.Proofs.YtkcbomohgbafoaaDoor
open Go

section
variable {P : Program} {Z : Seat} {c : Conf} {id : Id} {s s' : St} {a : Act} {o : Oper} {io : IOp} {v : RV} {C : Calls'}

theorem run_value_call {f : Operand} {xs : Array Operand} {ts : Array TypeId} (hop : o.op = .call { callee := .value f, args := xs, argTypes := ts }) {fid : FuncId} {fi cap : Array Value} (hf : a.eval f = .func (.func fid) fi cap) (w : World) :
    (execOp a.eval o).run P w = (callFunc fid (fi ++ xs.map a.eval ++ cap)).run P w := by
  simp only [execOp, hop, resolve, hf, Deferred.ofValue, Sem.run_bind, Sem.run_pure, Result.andThen_ok, invoke]

theorem op_sound {w0 : World} {bc : Conf} (hC : SoundB P Z w0 bc C) (hE : Evolve bc c) (hU : Under w0 c) (pr : Pre Z c id s a) (ho : cOp P Z o = some io) {r : OpOut} (he : evOp C id io s = some r) (hno : ∀ f l r, io = .callv f l → evArg s.env f ≠ some (.yld r)) {K : Act → World → Prop} {Q : Exit → Act → World → Prop} (hb : Behind P Z c id s a o r K Q) : o.wp P a c.w K Q := by
  cases hop : o.op with
  | move x =>
    simp only [cOp, hop, Option.map_eq_some_iff] at ho
    obtain ⟨ix, h1, rfl⟩ := ho
    obtain ⟨v, s', rfl⟩ := ev_val he rfl
    exact (opMove pr h1 he (.inl hop)).wp pr hb
  | assign x =>
    simp only [cOp, hop, Option.map_eq_some_iff] at ho
    obtain ⟨ix, h1, rfl⟩ := ho
    obtain ⟨v, s', rfl⟩ := ev_val he rfl
    exact (opMove pr h1 he (.inr hop)).wp pr hb
  | pick x y z =>
    simp only [cOp, hop, Option.bind_eq_some_iff, Option.some.injEq] at ho
    obtain ⟨ix, h1, iy, h2, iz, h3, rfl⟩ := ho
    obtain ⟨v, s', rfl⟩ := ev_val he rfl
    exact (opPick pr h1 h2 h3 hop he).wp pr hb
  | alloc t =>
    simp only [cOp, hop, Option.map_eq_some_iff] at ho
    obtain ⟨z, h1, rfl⟩ := ho
    simp only [evOp, Option.some.injEq] at he
    subst he
    exact (opAlloc pr h1 hop).wp pr hb
  | box t x =>
    simp only [cOp, hop, Option.map_eq_some_iff] at ho
    obtain ⟨ix, h1, rfl⟩ := ho
    obtain ⟨v, s', rfl⟩ := ev_val he rfl
    exact (opBox pr h1 hop he).wp pr hb
  | build t parts =>
    simp only [cOp, hop, Option.bind_eq_some_iff] at ho
    obtain ⟨z, h1, h2⟩ := ho
    split at h2
    · rename_i fs hu
      split at h2
      · rename_i hall
        simp only [Option.map_eq_some_iff] at h2
        obtain ⟨is, h3, rfl⟩ := h2
        obtain ⟨v, s', rfl⟩ := ev_val he rfl
        exact (opBuild pr h1 (.inl ⟨fs, hu, hall, rfl⟩) h3 hop he).wp pr hb
      · simp at h2
    · rename_i m e hu
      simp only [Option.bind_eq_some_iff, Option.map_eq_some_iff] at h2
      obtain ⟨n, h3, is, h4, rfl⟩ := h2
      obtain ⟨v, s', rfl⟩ := ev_val he rfl
      exact (opBuild pr h1 (.inr ⟨m, e, n, hu, h3, rfl⟩) h4 hop he).wp pr hb
    · simp at h2
  | buildSlice t len parts =>
    simp only [cOp, hop] at ho
    split at ho
    · rename_i e hu
      simp only [Option.bind_eq_some_iff] at ho
      obtain ⟨n, h1, h2⟩ := ho
      split at h2
      · rename_i hc
        simp only [Bool.and_eq_true, beq_iff_eq, bne_iff_ne, decide_eq_true_eq] at hc
        obtain ⟨⟨⟨⟨g1, g2⟩, g3⟩, g4⟩, g5⟩ := hc
        simp only [Option.map_eq_some_iff] at h2
        obtain ⟨is, h3, rfl⟩ := h2
        obtain ⟨v, s', rfl⟩ := ev_val he rfl
        exact (opSlit pr hu h1 g1 g2 g3 g4 g5 h3 hop he).wp pr hb
      · simp at h2
    · simp at ho
  | makeSlice t l k =>
    simp only [cOp, hop] at ho
    unfold cMk at ho
    split at ho
    · split at ho
      · rename_i e hu
        simp only [Option.bind_eq_some_iff] at ho
        obtain ⟨i, h1, z, h2, h3⟩ := ho
        split at h3
        · split at h3
          · rename_i hc
            obtain ⟨g1, g2, g3, g4, g5, g6⟩ := hc
            simp only [Option.some.injEq] at h3
            subst h3
            obtain ⟨v, s', rfl⟩ := ev_val he rfl
            subst g1
            exact (opMksl pr hu h1 h2 g2 g3 g4 g5 g6 hop he).wp pr hb
          · simp at h3
        · simp at h3
      · simp at ho
    · simp at ho
  | load t x =>
    simp only [cOp, hop, Option.bind_eq_some_iff, Option.map_eq_some_iff] at ho
    obtain ⟨k, h1, ix, h2, rfl⟩ := ho
    obtain ⟨v, s', rfl⟩ := ev_val he rfl
    exact (opLoad pr h1 h2 hop he).wp pr hb
  | store t x y =>
    simp only [cOp, hop, Option.bind_eq_some_iff, Option.map_eq_some_iff] at ho
    obtain ⟨k, h1, ix, h2, iy, h3, rfl⟩ := ho
    obtain ⟨v, s', rfl⟩ := ev_val he rfl
    exact (opStore pr h1 h2 h3 hop he).wp pr hb
  | nilCheck x =>
    simp only [cOp, hop, Option.map_eq_some_iff] at ho
    obtain ⟨ix, h1, rfl⟩ := ho
    obtain ⟨v, s', rfl⟩ := ev_val he rfl
    exact (opNil pr h1 hop he).wp pr hb
  | binOp op t x y yt =>
    have hgen : ∀ (h : (cArg Z x).bind (fun x => (cArg Z y).map fun y => IOp.bin op x y) = some io), o.wp P a c.w K Q := by
      intro h
      simp only [Option.bind_eq_some_iff, Option.map_eq_some_iff] at h
      obtain ⟨ix, h1, iy, h2, rfl⟩ := h
      obtain ⟨v, s', rfl⟩ := ev_val he rfl
      exact (opBin pr h1 h2 hop he).wp pr hb
    cases op
    case eql => exact cEq_sound (ne := false) pr hop (by simpa only [cOp, hop] using ho) he hb
    case neq => exact cEq_sound (ne := true) pr hop (by simpa only [cOp, hop] using ho) he hb
    all_goals exact hgen (by simpa only [cOp, hop] using ho)
  | unOp op t x =>
    by_cases hp : op = .plus
    · subst hp; simp [cOp, hop] at ho
    · have h : (cArg Z x).map (fun x => IOp.un op x) = some io := by
        cases op <;> first | exact absurd rfl hp | simpa only [cOp, hop] using ho
      simp only [Option.map_eq_some_iff] at h
      obtain ⟨ix, h1, rfl⟩ := h
      obtain ⟨v, s', rfl⟩ := ev_val he rfl
      exact (opUn pr h1 hp hop he).wp pr hb
  | convert sT dT x =>
    simp only [cOp, hop] at ho
    split at ho
    · rename_i k0 k hs hd
      simp only [Option.map_eq_some_iff] at ho
      obtain ⟨ix, h1, rfl⟩ := ho
      obtain ⟨v, s', rfl⟩ := ev_val he rfl
      exact (opCvInt pr hs hd h1 hop he).wp pr hb
    · rename_i k0 hs hd
      simp only [Option.map_eq_some_iff] at ho
      obtain ⟨ix, h1, rfl⟩ := ho
      obtain ⟨v, s', rfl⟩ := ev_val he rfl
      exact (opCvRune pr hs hd h1 hop he).wp pr hb
    · rename_i hs hd
      simp only [Option.map_eq_some_iff] at ho
      obtain ⟨ix, h1, rfl⟩ := ho
      obtain ⟨v, s', rfl⟩ := ev_val he rfl
      exact (opCvId pr hs hd h1 hop he).wp pr hb
    · rename_i e hs hd
      split at ho
      · rename_i hu8
        simp only [if_true, Option.map_eq_some_iff] at ho
        obtain ⟨ix, h1, rfl⟩ := ho
        obtain ⟨v, s', rfl⟩ := ev_val he rfl
        exact (opCvBytes pr hs hd hu8 h1 hop he).wp pr hb
      · simp at ho
    · rename_i e hs hd
      split at ho
      · rename_i hu8
        simp only [if_true, Option.map_eq_some_iff] at ho
        obtain ⟨ix, h1, rfl⟩ := ho
        obtain ⟨v, s', rfl⟩ := ev_val he rfl
        exact (opCvStr pr hs hd hu8 h1 hop he).wp pr hb
      · simp at ho
    · simp at ho
  | makeInterface t x =>
    simp only [cOp, hop] at ho
    split at ho
    · simp at ho
    · rename_i d hni ht
      simp only [Option.bind_eq_some_iff, Option.map_eq_some_iff] at ho
      obtain ⟨k, h1, ix, h2, rfl⟩ := ho
      obtain ⟨v, s', rfl⟩ := ev_val he rfl
      exact (opMkIface pr ht (fun ms e => hni ms (by rw [e])) h1 h2 hop he).wp pr hb
    · simp at ho
  | makeFunc target first cap =>
    cases target <;> simp only [cOp, hop, reduceCtorEq] at ho
    simp only [Option.bind_eq_some_iff, Option.map_eq_some_iff] at ho
    obtain ⟨k, h1, is, h2, js, h3, rfl⟩ := ho
    obtain ⟨v, s', rfl⟩ := ev_val he rfl
    exact (opMkFunc pr h1 h2 h3 hop he).wp pr hb
  | makeMap t x =>
    cases x <;> simp only [cOp, hop, reduceCtorEq] at ho
    simp only [Option.map_eq_some_iff] at ho
    obtain ⟨k, h1, rfl⟩ := ho
    simp only [evOp, Option.some.injEq] at he
    subst he
    exact (opMkMap pr hop).wp pr hb
  | slice t x lo hi mx =>
    simp only [cOp, hop] at ho
    split at ho
    · rename_i ht
      simp only [Option.bind_eq_some_iff, Option.map_eq_some_iff] at ho
      obtain ⟨ix, h1, ilo, h2, ihi, h3, imx, h4, rfl⟩ := ho
      obtain ⟨v, s', rfl⟩ := ev_val he rfl
      exact (opSubS pr ht h1 h2 h3 h4 hop he).wp pr hb
    · rename_i e ht
      simp only [Option.bind_eq_some_iff, Option.map_eq_some_iff] at ho
      obtain ⟨n, h0, ix, h1, ilo, h2, ihi, h3, imx, h4, rfl⟩ := ho
      obtain ⟨v, s', rfl⟩ := ev_val he rfl
      exact (opSubL pr ht h0 h1 h2 h3 h4 hop he).wp pr hb
    · simp at ho
  | fieldAddr t x f =>
    simp only [cOp, hop] at ho
    split at ho
    · rename_i fs ht
      simp only [Option.bind_eq_some_iff] at ho
      obtain ⟨fd, h1, h2⟩ := ho
      split at h2
      · simp at h2
      · rename_i h0
        simp only [Option.bind_eq_some_iff, Option.map_eq_some_iff] at h2
        obtain ⟨n, h3, ix, h4, rfl⟩ := h2
        obtain ⟨v, s', rfl⟩ := ev_val he rfl
        exact (opFaddr pr ht h1 h3 (by rintro rfl; simp [h3] at h0) h4 hop he).wp pr hb
    · simp at ho
  | field t x f =>
    simp only [cOp, hop] at ho
    split at ho
    · rename_i fs ht
      simp only [Option.bind_eq_some_iff, Option.map_eq_some_iff] at ho
      obtain ⟨fd, h1, n, h2, ix, h3, rfl⟩ := ho
      obtain ⟨v, s', rfl⟩ := ev_val he rfl
      exact (opField pr ht h1 h2 h3 hop he).wp pr hb
    · simp at ho
  | indexAddr t x i =>
    simp only [cOp, hop] at ho
    split at ho
    · rename_i e ht
      simp only [Option.bind_eq_some_iff] at ho
      obtain ⟨n, h1, h2⟩ := ho
      split at h2
      · simp at h2
      · simp only [Option.bind_eq_some_iff, Option.map_eq_some_iff] at h2
        obtain ⟨ix, h3, iy, h4, rfl⟩ := h2
        obtain ⟨v, s', rfl⟩ := ev_val he rfl
        exact (opIaddr pr ht h1 h3 h4 hop he).wp pr hb
    · rename_i len e ht
      simp only [Option.bind_eq_some_iff] at ho
      obtain ⟨n, h1, h2⟩ := ho
      split at h2
      · simp at h2
      · simp only [Option.bind_eq_some_iff, Option.map_eq_some_iff] at h2
        obtain ⟨ix, h3, iy, h4, rfl⟩ := h2
        obtain ⟨v, s', rfl⟩ := ev_val he rfl
        exact (opAaddr pr ht h1 h3 h4 hop he).wp pr hb
    · simp at ho
  | index t x i =>
    simp only [cOp, hop] at ho
    split at ho
    · rename_i ht
      simp only [Option.bind_eq_some_iff, Option.map_eq_some_iff] at ho
      obtain ⟨ix, h1, iy, h2, rfl⟩ := ho
      obtain ⟨v, s', rfl⟩ := ev_val he rfl
      exact (opIdxS pr ht h1 h2 hop he).wp pr hb
    · rename_i len e ht
      simp only [Option.bind_eq_some_iff, Option.map_eq_some_iff] at ho
      obtain ⟨n, h1, k, h2, ix, h3, iy, h4, rfl⟩ := ho
      obtain ⟨v, s', rfl⟩ := ev_val he rfl
      exact (opIdxA pr ht h1 h2 h3 h4 hop he).wp pr hb
    · simp at ho
  | lookup t x k ok =>
    simp only [cOp, hop, Option.bind_eq_some_iff, Option.map_eq_some_iff] at ho
    obtain ⟨e, h1, z, h2, ix, h3, iy, h4, rfl⟩ := ho
    simp [evOp] at he
  | mapUpdate t m k v =>
    simp only [cOp, hop, Option.bind_eq_some_iff, Option.map_eq_some_iff] at ho
    obtain ⟨e, h1, z, h2, ix, h3, iy, h4, rfl⟩ := ho
    simp [evOp] at he
  | typeAssert x xt t ok =>
    simp only [cOp, hop] at ho
    split at ho
    · simp at ho
    · rename_i d hni ht
      simp only [Option.bind_eq_some_iff, Option.map_eq_some_iff] at ho
      obtain ⟨k, h1, z, h2, ix, h3, rfl⟩ := ho
      obtain ⟨v, s', rfl⟩ := ev_val he rfl
      exact (opTassert pr ht (fun ms e => hni ms (by rw [e])) h1 h2 h3 hop he).wp pr hb
    · simp at ho
  | extract x i =>
    simp only [cOp, hop, Option.map_eq_some_iff] at ho
    obtain ⟨ix, h1, rfl⟩ := ho
    obtain ⟨v, s', rfl⟩ := ev_val he rfl
    exact (opExtract pr h1 hop he).wp pr hb
  | panic x =>
    simp only [cOp, hop, Option.map_eq_some_iff] at ho
    obtain ⟨ix, h1, rfl⟩ := ho
    simp only [evOp, Option.bind_eq_some_iff] at he
    obtain ⟨u, h2, h3⟩ := he
    split at h3
    · rename_i t d
      simp only [Option.some.injEq] at h3
      subst h3
      have hu := RepR.arg Z pr.env h1 h2
      simp only [RepR, RepD] at hu
      obtain ⟨x', hx', hr⟩ := hu
      have hk := hb.pan _ _ rfl (a.eval x) c.w c.g (by rw [← pr.H]; exact Step.refl c) (by rw [← pr.H]; exact pr.heap) (by simp only [RepD]; exact ⟨x', hx', hr⟩) (fun j hj => .inl hj) rfl rfl rfl rfl rfl
      have hrun : (execOp a.eval o).run P c.w = .halt (.panic (a.eval x)) c.w := by
        simp [execOp, hop, Instr.panic, hx', goPanic]
      unfold Oper.wp
      rw [hrun, Oper.upon_panic]
      exact hk
    · simp at h3
  | call k =>
    obtain ⟨callee, xs, ts⟩ := k
    cases callee with
    | invoke recv m => simp [cOp, hop] at ho
    | value f =>
      have hcases : (∃ fid k is, f = .func fid ∧ cFn Z fid = some k ∧ cArgs Z xs.toList = some is ∧ io = .call k is) ∨ (∃ g is, cArg Z f = some g ∧ cArgs Z xs.toList = some is ∧ io = .callv g is) := by
        cases f <;> simp only [cOp, hop, Option.bind_eq_some_iff, Option.map_eq_some_iff] at ho
        case func fid => obtain ⟨k, h1, is, h2, h3⟩ := ho; exact .inl ⟨fid, k, is, rfl, h1, h2, h3.symm⟩
        all_goals (obtain ⟨k, h1, is, h2, h3⟩ := ho; exact .inr ⟨k, is, h1, h2, h3.symm⟩)
      rcases hcases with ⟨fid, k, is, rfl, h1, h2, rfl⟩ | ⟨g, is, h1, h2, rfl⟩
      · simp only [evOp, Option.bind_eq_some_iff] at he
        obtain ⟨vs, h3, h4⟩ := he
        have hfi : Z.fi k = fid := by
          unfold cFn at h1
          split at h1
          · rename_i e; simp only [Option.some.injEq] at h1; subst h1; exact e
          · simp at h1
        have hR := RepRs.args Z pr.env h2 h3
        have hr := run_value_call (P := P) (a := a) hop (fid := fid) (fi := #[]) (cap := #[]) rfl c.w
        simp only [Array.empty_append, Array.append_empty] at hr
        refine wp_doCall hC hE hU pr (args := xs.map a.eval) (by simpa using hR) h4 (by rw [hfi]; exact hr) hb
      · simp only [evOp, Option.bind_eq_some_iff] at he
        obtain ⟨u, h3, h4⟩ := he
        have hu := RepR.arg Z pr.env h1 h3
        split at h4
        · rename_i k as bs
          simp only [Option.bind_eq_some_iff] at h4
          obtain ⟨vs, h5, h6⟩ := h4
          have hR := RepRs.args Z pr.env h2 h5
          simp only [RepR] at hu
          obtain ⟨x, y, hxy, g1, g2⟩ := hu
          refine wp_doCall hC hE hU pr (args := x ++ xs.map a.eval ++ y) ?_ h6 (run_value_call hop hxy c.w) hb
          simp only [Array.toList_append, Array.toList_map]
          exact RepRs.append Z (RepRs.append Z g1 hR) g2
        · rename_i k as bs
          simp only [Option.bind_eq_some_iff] at h4
          obtain ⟨vs, h5, h6⟩ := h4
          have hR := RepRs.args Z pr.env h2 h5
          simp only [RepR, RepD] at hu
          obtain ⟨x, y, hxy, g1, g2⟩ := hu
          refine wp_doCall hC hE hU pr (args := x ++ xs.map a.eval ++ y) ?_ h6 (run_value_call hop hxy c.w) hb
          simp only [Array.toList_append, Array.toList_map]
          exact RepRs.append Z (RepRs.append Z (RepRs.of_data Z g1) hR) (RepRs.of_data Z g2)
        · exact absurd h3 (hno _ _ _ rfl)
        · simp at h4
    | builtin b =>
      cases b <;> simp only [cOp, hop, reduceCtorEq] at ho
      case recover =>
        simp only [Option.some.injEq] at ho
        subst ho
        simp [evOp, pr.rv] at he
      case len =>
        split at ho
        · rename_i x hxs hts
          simp only [Option.map_eq_some_iff] at ho
          obtain ⟨ix, h1, rfl⟩ := ho
          obtain ⟨t, ht, hd⟩ := Option.bind_eq_some_iff.1 hts
          obtain ⟨v, s', rfl⟩ := ev_val he rfl
          exact (opLenS pr hxs ht h1 hd hop he).wp pr hb
        · rename_i x e hxs hts
          simp only [Option.map_eq_some_iff] at ho
          obtain ⟨ix, h1, rfl⟩ := ho
          obtain ⟨t, ht, hd⟩ := Option.bind_eq_some_iff.1 hts
          obtain ⟨v, s', rfl⟩ := ev_val he rfl
          exact (opLenL pr hxs ht h1 hd hop he).wp pr hb
        · simp at ho
      case append =>
        split at ho
        · rename_i sx x t t' hxs hts
          split at ho
          · rename_i e ht
            simp only [Option.bind_eq_some_iff] at ho
            obtain ⟨i, hi, h1⟩ := ho
            split at h1
            · rename_i hc
              obtain ⟨rfl, g1, g2, g3⟩ := hc
              simp only [Option.bind_eq_some_iff, Option.map_eq_some_iff] at h1
              obtain ⟨k, h2, is, h3, ix, h4, rfl⟩ := h1
              have hty : Z.ty k = e := by
                unfold cTy at h2
                split at h2
                · rename_i e; simp only [Option.some.injEq] at h2; subst h2; exact e
                · simp at h2
              obtain ⟨v, s', rfl⟩ := ev_val he rfl
              exact (opAppend pr hxs hts ht hi g1 g2 g3 hty h3 h4 hop he).wp pr hb
            · simp at h1
          · simp at ho
        · simp at ho
      case clear =>
        split at ho
        · simp only [Option.map_eq_some_iff] at ho
          obtain ⟨ix, h1, rfl⟩ := ho
          simp [evOp] at he
        · simp at ho
      case max =>
        simp only [Option.map_eq_some_iff] at ho
        obtain ⟨is, h1, rfl⟩ := ho
        obtain ⟨v, s', rfl⟩ := ev_val he rfl
        exact (opMinmax (mx := true) pr h1 hop he).wp pr hb
      case min =>
        simp only [Option.map_eq_some_iff] at ho
        obtain ⟨is, h1, rfl⟩ := ho
        obtain ⟨v, s', rfl⟩ := ev_val he rfl
        exact (opMinmax (mx := false) pr h1 hop he).wp pr hb
  | defer k =>
    obtain ⟨callee, xs, ts⟩ := k
    cases callee <;> simp only [cOp, hop, reduceCtorEq] at ho
    rename_i g
    split at ho
    · rename_i hemp
      simp only [Option.map_eq_some_iff] at ho
      obtain ⟨ig, h1, rfl⟩ := ho
      simp only [evOp, Option.bind_eq_some_iff] at he
      obtain ⟨u, h2, h3⟩ := he
      have hu := RepR.arg Z pr.env h1 h2
      split at h3
      · rename_i f as bs
        simp only [Option.some.injEq] at h3
        subst h3
        simp only [RepR] at hu
        obtain ⟨x, y, hxy, g1, g2⟩ := hu
        have hx0 : xs.map a.eval = #[] := by
          have : xs = #[] := by simpa using hemp
          subst this; simp
        have hrun : (execOp a.eval o).run P c.w = .ok (.defer { target := .fn (.func (Z.fi f)) y, args := x }) c.w := by
          simp only [execOp, hop, resolve, hxy, Deferred.ofValue, Sem.run_bind, Sem.run_pure, Result.andThen_ok, hx0, Array.append_empty]
        unfold Oper.wp
        rw [hrun, Oper.upon_defer]
        refine hb.val _ _ rfl undef c.w c.g _ (by rw [← pr.H]; exact Step.refl c) (by rw [← pr.H]; exact pr.heap) (by simp only [RepR, RepRs]; exact ⟨#[], rfl, rfl⟩) (fun j hj => .inl hj) rfl rfl rfl ?_ ?_ pr.rv
        · cases o.dst <;> rfl
        · rw [put_defers]
          simp only [DfsR]
          refine ⟨y, x, a.defers, rfl, ?_, by rw [← pr.H]; exact pr.dfs⟩
          rw [← pr.H]
          simp only [Array.toList_append]
          exact RepRs.append Z g1 g2
      · simp at h3
    · simp at ho
  | _ => simp [cOp, hop] at ho

end
end Go.Proofs.YtkcbomohgbafoaaDoor
/- Part of the text. -/
set_option linter.unusedVariables false
set_option linter.unusedSimpArgs false
namespace Go.Proofs.YtkcbomohgbafoaaDoor
open Go

theorem prefix_one {p : Id} {m n : Nat} {i : Id} (h : (p ++ [m]) <+: i) (h' : (p ++ [n]) <+: i) : m = n := by
  obtain ⟨a, rfl⟩ := h
  obtain ⟨b, hb⟩ := h'
  simp only [List.append_assoc, List.singleton_append] at hb
  have := List.append_cancel_left hb
  simp only [List.cons.injEq] at this
  exact this.1.symm

section
variable (P : Program) (Z : Seat)

/-- State of the evaluator and of the machine. -/
structure SR (w0 : World) (bc : Conf) (nt : Nat) (c : Conf) (s : St) (a : Act) (k : Nat) : Prop where
  under : Under w0 c
  ev : Evolve bc c
  H : c.H = s.heap
  heap : HeapOK Z c
  env : EnvOK Z c s.env a.tmps
  size : a.tmps.size = nt
  fresh : ∀ i, c.g.D i → ∀ m, k ≤ m → ¬ (s.pre ++ [m]) <+: i
  dfs : DfsR Z c s.dfs a.defers
  rv : s.rv = none

def ExOK (c : Conf) (s : St) (a : Act) : Ex → Exit → Prop
  | .normal, .normal => EnvOK Z c s.env a.tmps
  | .ret, .ret => EnvOK Z c s.env a.tmps
  | .exit i, .exit j => i = j ∧ EnvOK Z c s.env a.tmps
  | .goto i, .goto j => i = j ∧ EnvOK Z c s.env a.tmps
  | .panic d, .panic ch => (∃ x, ch = [{ v := x, recovered := false }] ∧ RepD Z c.I d x) ∧ EnvOK Z c s.env a.tmps
  | _, _ => False

/-- What is so behind a piece of code: the ids up to n have been used. -/
structure PostG (nt : Nat) (c : Conf) (s : St) (a : Act) (x : Ex) (s' : St) (k n : Nat) (e : Exit) (a' : Act) (w' : World) (g' : Gh) : Prop where
  step : Step c ⟨g', w', s'.heap⟩
  heap : HeapOK Z ⟨g', w', s'.heap⟩
  D : ∀ j, g'.D j → c.g.D j ∨ ∃ m, k ≤ m ∧ m < n ∧ (s.pre ++ [m]) <+: j
  pre : s'.pre = s.pre
  size : a'.tmps.size = nt
  dfs : DfsR Z ⟨g', w', s'.heap⟩ s'.dfs a'.defers
  rv : s'.rv = none
  ex : ExOK Z ⟨g', w', s'.heap⟩ s' a' x e

def Post (nt : Nat) (c : Conf) (s : St) (a : Act) (x : Ex) (s' : St) (k n : Nat) (e : Exit) (a' : Act) (w' : World) : Prop := ∃ g', PostG Z nt c s a x s' k n e a' w' g'
end

section
variable {P : Program} {Z : Seat} {w0 : World} {bc : Conf} {c : Conf} {s s' : St} {a : Act} {C : Calls'} {nt : Nat}

theorem put_size (a : Act) (d : Option Tmp) (v : Value) : (a.put d v).tmps.size = a.tmps.size := by cases d <;> simp [Act.put]
theorem EnvOK.putO {c : Conf} {env : Nat → Option RV} (he : EnvOK Z c env a.tmps) {d : Option Tmp} (hd : ∀ r, d = some r → r < a.tmps.size) {v : RV} {x : Value} (hv : RepR Z c v x) {s : St} (hs : s.env = env) : EnvOK Z c (s.put d v).env (a.put d x).tmps := by
  cases d with
  | none => simpa only [St.put, Act.put, hs] using he
  | some r => simpa only [St.put, St.set, Act.put, hs] using EnvOK.set Z he (hd r rfl) hv

theorem put_heap (s : St) (d : Option Nat) (v : RV) : (s.put d v).heap = s.heap := by cases d <;> rfl
theorem put_pre (s : St) (d : Option Nat) (v : RV) : (s.put d v).pre = s.pre := by cases d <;> rfl
theorem put_dfs (s : St) (d : Option Nat) (v : RV) : (s.put d v).dfs = s.dfs := by cases d <;> rfl
theorem put_rv (s : St) (d : Option Nat) (v : RV) : (s.put d v).rv = s.rv := by cases d <;> rfl
theorem put_next (s : St) (d : Option Nat) (v : RV) : (s.put d v).next = s.next := by cases d <;> rfl

/-- A guard is read as the evaluator reads it. -/
theorem wanted_of (he : EnvOK Z c s.env a.tmps) (hsz : a.tmps.size = nt) {ops : Array Oper} {o : Oper} {g : Option (Nat × Bool)} (hg : cGuard ops o.guard = some g) (hlt : ∀ (j : Nat) (d : Tmp), (ops[j]?).bind (·.dst) = some d → d < nt) {t : Bool} (hw : wanted s.env g = some t) : Region.wanted o (yielded ops a.tmps) = t := by
  unfold Region.wanted
  cases hgu : o.guard with
  | none =>
    simp only [hgu, cGuard, Option.some.injEq] at hg
    subst hg
    simp only [wanted, Option.some.injEq] at hw
    subst hw
    rfl
  | some jb =>
    obtain ⟨j, b⟩ := jb
    simp only [hgu, cGuard, Option.map_eq_some_iff] at hg
    obtain ⟨d, hd, rfl⟩ := hg
    simp only [wanted, Option.bind_eq_some_iff] at hw
    obtain ⟨u, h1, h2⟩ := hw
    have hr := he d u h1
    have hlt' : d < a.tmps.size := by rw [hsz]; exact hlt j d hd
    have hget : a.tmps[d]? = some (a.tmps.getD d undef) := by
      rw [Array.getElem?_eq_getElem hlt']; simp [Array.getD, hlt']
    simp only [yielded, hd, Option.bind_some, hget]
    split at h2
    · rename_i q
      simp only [Option.some.injEq] at h2
      subst h2
      simp only [RepR, RepD] at hr
      rw [hr]
      cases q <;> cases b <;> rfl
    · simp only [Option.some.injEq] at h2
      subst h2
      simp only [RepR, RepRs] at hr
      obtain ⟨vs, hv, _⟩ := hr
      rw [hv]
      cases b <;> rfl
    · simp at h2

/-- The frame that is spoken of: an ordinary one, or a round's of a loop over a function. -/
def FR : Option Nat → Fence
  | none => Fence.wide
  | some l => Fence.wide.inRound l
theorem FR_fn (R : Option Nat) (f : FuncId) : (FR R).fn f := by cases R <;> exact trivial
theorem FR_depth (R : Option Nat) : (FR R).depth = none := by cases R <;> rfl
theorem FR_round (R : Option Nat) : (FR R).round = R := by cases R <;> rfl
theorem FR_calls {R : Option Nat} {n : Nat} {f : FuncId} {args : Array Value} {w : World} {q : Ending → World → Prop} (h : Calls P f args w q) : CallsIn (FR R) n P f args w q := by
  cases R with
  | none => exact callsIn_wide.2 h
  | some l => exact (callsIn_wide (n := n)).2 h
theorem FR_rows {R : Option Nat} {n : Nat} {row : String} {args : Array Value} {w : World} {q : Value → World → Prop} (h : Rows P row args w q) : RowsIn (FR R) n P row args w q := by
  have e : Machine.fenced P (FR R) = Machine.fenced P Fence.wide := by cases R <;> rfl
  intro c cs _
  obtain ⟨v, w', r, s⟩ := h c cs
  rw [e]
  exact ⟨v, w', r, stepsIn_wide.2 s⟩

theorem cOp_dfr {o : Oper} {io : IOp} (h : cOp P Z o = some io) (hd : isDfr io = false) : ∀ c, o.op ≠ .defer c := by
  intro k hop
  obtain ⟨callee, xs, ts⟩ := k
  cases callee <;> simp only [cOp, hop, reduceCtorEq] at h
  split at h
  · simp only [Option.map_eq_some_iff] at h
    obtain ⟨_, _, rfl⟩ := h
    simp [isDfr] at hd
  · simp at h

/-- What an ordinary frame's operation does, a round's does too. -/
theorem opIn {R : Option Nat} {o : Oper} {a : Act} {w : World} {K : Act → World → Prop} {Q : Exit → Act → World → Prop} (hd : R = none ∨ ∀ c, o.op ≠ .defer c) (h : o.wp P a w K Q) : o.wpIn (FR R) 0 P a w K Q := by
  refine ⟨fun f _ => FR_fn R f, ?_⟩
  have e : o.semAt (FR R).round a.eval = execOp a.eval o := by
    rw [FR_round]
    rcases hd with rfl | hd
    · rfl
    · exact Oper.semAt_eq _ _ _ hd
  rw [e]
  unfold Oper.wp at h
  generalize (execOp a.eval o).run P w = r at h ⊢
  have hdep : ((FR R).depth.isSome = true → 1 ≤ 0) := by rw [FR_depth]; simp
  cases r with
  | ok x w' => cases x <;> simp only [Oper.upon, Oper.uponIn] at h ⊢ <;> first | exact h | exact ⟨hdep, FR_calls h⟩ | exact ⟨hdep, FR_rows h⟩ | exact h.elim
  | halt x w' => cases x <;> simp only [Oper.upon, Oper.uponIn] at h ⊢ <;> exact h

theorem cEq_bytes {ne : Bool} {t : TypeId} {x y : Operand} {ix : IArg} (h : cEq P Z ne t x y = some (.cvBytes ix)) : False := by
  unfold cEq at h
  repeat' (first | (obtain ⟨_, _, h⟩ := h) | (split at h) | (simp only [Option.bind_eq_some_iff, Option.map_eq_some_iff, Option.some.injEq, reduceCtorEq, and_false, exists_false] at h))

theorem cOp_bytes {o : Oper} {ix : IArg} (h : cOp P Z o = some (.cvBytes ix)) : ∃ sT dT e x, o.op = .convert sT dT x ∧ P.underlying sT = some .string ∧ P.underlying dT = some (.slice e) ∧ P.underlying e = some (.int .u8) ∧ cArg Z x = some ix := by
  cases hop : o.op with
  | convert sT dT x =>
    simp only [cOp, hop] at h
    split at h
    · simp only [Option.map_eq_some_iff, reduceCtorEq, and_false, exists_false] at h
    · simp only [Option.map_eq_some_iff, reduceCtorEq, and_false, exists_false] at h
    · simp only [Option.map_eq_some_iff, reduceCtorEq, and_false, exists_false] at h
    · rename_i e hs hd
      split at h
      · rename_i hu8
        simp only [if_true, Option.map_eq_some_iff, IOp.cvBytes.injEq] at h
        obtain ⟨jx, h1, rfl⟩ := h
        exact ⟨sT, dT, e, x, rfl, hs, hd, hu8, h1⟩
      · simp at h
    · split at h
      · simp only [if_true, Option.map_eq_some_iff, reduceCtorEq, and_false, exists_false] at h
      · simp at h
    · simp at h
  | call k =>
    exfalso
    obtain ⟨callee, xs, ts⟩ := k
    cases callee with
    | builtin b =>
      cases b <;> simp only [cOp, hop, reduceCtorEq] at h
      all_goals (repeat' (first | (obtain ⟨_, _, h⟩ := h) | (split at h) | (simp only [Option.bind_eq_some_iff, Option.map_eq_some_iff, Option.some.injEq, reduceCtorEq, and_false, exists_false] at h)))
    | value f => cases f <;> simp only [cOp, hop, Option.bind_eq_some_iff, Option.map_eq_some_iff, reduceCtorEq, and_false, exists_false] at h
    | invoke r m => simp [cOp, hop] at h
  | binOp op t x y yt =>
    exfalso
    cases op
    case eql => exact cEq_bytes (P := P) (Z := Z) (ne := false) (t := t) (x := x) (y := y) (by simpa only [cOp, hop] using h)
    case neq => exact cEq_bytes (P := P) (Z := Z) (ne := true) (t := t) (x := x) (y := y) (by simpa only [cOp, hop] using h)
    all_goals (simp only [cOp, hop, Option.bind_eq_some_iff, Option.map_eq_some_iff, reduceCtorEq, and_false, exists_false] at h)
  | unOp op t x => exfalso; cases op <;> simp only [cOp, hop, Option.bind_eq_some_iff, Option.map_eq_some_iff, reduceCtorEq, and_false, exists_false] at h
  | makeFunc f a b => exfalso; cases f <;> simp only [cOp, hop, Option.bind_eq_some_iff, Option.map_eq_some_iff, reduceCtorEq, and_false, exists_false] at h
  | makeMap t x => exfalso; cases x <;> simp only [cOp, hop, Option.bind_eq_some_iff, Option.map_eq_some_iff, reduceCtorEq, and_false, exists_false] at h
  | makeSlice t l k => exfalso; simp only [cOp, hop] at h; obtain ⟨_, _, e⟩ := cMk_some P h; cases e
  | defer k =>
    exfalso
    obtain ⟨callee, xs, ts⟩ := k
    cases callee <;> simp only [cOp, hop, reduceCtorEq] at h
    repeat' (first | (obtain ⟨_, _, h⟩ := h) | (split at h) | (simp only [Option.bind_eq_some_iff, Option.map_eq_some_iff, Option.some.injEq, reduceCtorEq, and_false, exists_false] at h))
  | _ =>
    exfalso
    simp only [cOp, hop, reduceCtorEq] at h
    repeat' (first | (obtain ⟨_, _, h⟩ := h) | (split at h) | (simp only [Option.bind_eq_some_iff, Option.map_eq_some_iff, Option.some.injEq, reduceCtorEq, and_false, exists_false] at h))

/-- An operation in any frame; a call of a yield too. -/
theorem opIn_sound {R : Option Nat} {id : Id} {o : Oper} {io : IOp} (hC : SoundB P Z w0 bc C) (hE : Evolve bc c) (hU : Under w0 c) (pr : Pre Z c id s a) (ho : cOp P Z o = some io) (hd : R = none ∨ isDfr io = false) {r : OpOut} (he : evOp C id io s = some r) {K : Act → World → Prop} {Q : Exit → Act → World → Prop} (hb : Behind P Z c id s a o r K Q) : o.wpIn (FR R) 0 P a c.w K Q := by
  by_cases hno : ∀ f l r, io = .callv f l → evArg s.env f ≠ some (.yld r)
  · exact opIn (hd.imp (fun e => e) fun h => cOp_dfr ho h) (op_sound hC hE hU pr ho he hno hb)
  · have hno' : ∃ f l r, io = .callv f l ∧ evArg s.env f = some (.yld r) := by
      by_cases h : ∃ f l r, io = .callv f l ∧ evArg s.env f = some (.yld r)
      · exact h
      · exact absurd (fun f l r h1 h2 => h ⟨f, l, r, h1, h2⟩) hno
    obtain ⟨f, l, q, rfl, hf⟩ := hno'
    simp only [evOp, hf, Option.bind_some, Option.bind_eq_some_iff] at he
    obtain ⟨vs, h1, ⟨v, h'⟩, h2, h3⟩ := he
    simp only [Option.some.injEq] at h3
    subst h3
    -- the operation is a call of a value
    have hop : ∃ g xs ts, o.op = .call { callee := .value g, args := xs, argTypes := ts } ∧ cArg Z g = some f ∧ cArgs Z xs.toList = some l := by
      cases hop : o.op with
      | call k =>
        obtain ⟨callee, xs, ts⟩ := k
        cases callee with
        | value g =>
          refine ⟨g, xs, ts, rfl, ?_⟩
          cases g <;> simp only [cOp, hop, Option.bind_eq_some_iff, Option.map_eq_some_iff, reduceCtorEq, and_false, exists_false, IOp.callv.injEq] at ho
          all_goals (obtain ⟨k1, k2, k3, k4, rfl, rfl⟩ := ho; exact ⟨k2, k4⟩)
        | invoke r m => simp [cOp, hop] at ho
        | builtin b =>
          exfalso
          cases b <;> simp only [cOp, hop, reduceCtorEq] at ho
          all_goals (repeat' (first | (obtain ⟨_, _, ho⟩ := ho) | (split at ho) | (simp only [Option.bind_eq_some_iff, Option.map_eq_some_iff, Option.some.injEq, reduceCtorEq, and_false, exists_false] at ho)))
      | binOp op t x y yt =>
        exfalso
        have hq : ∀ ne, cEq P Z ne t x y = some (.callv f l) → False := by
          intro ne h
          unfold cEq at h
          repeat' (first | (obtain ⟨_, _, h⟩ := h) | (split at h) | (simp only [Option.bind_eq_some_iff, Option.map_eq_some_iff, Option.some.injEq, reduceCtorEq, and_false, exists_false] at h))
        cases op
        case eql => exact hq false (by simpa only [cOp, hop] using ho)
        case neq => exact hq true (by simpa only [cOp, hop] using ho)
        all_goals (simp only [cOp, hop, Option.bind_eq_some_iff, Option.map_eq_some_iff, reduceCtorEq, and_false, exists_false] at ho)
      | unOp op t x => exfalso; cases op <;> simp only [cOp, hop, Option.bind_eq_some_iff, Option.map_eq_some_iff, reduceCtorEq, and_false, exists_false] at ho
      | makeFunc f a b => exfalso; cases f <;> simp only [cOp, hop, Option.bind_eq_some_iff, Option.map_eq_some_iff, reduceCtorEq, and_false, exists_false] at ho
      | makeMap t x => exfalso; cases x <;> simp only [cOp, hop, Option.bind_eq_some_iff, Option.map_eq_some_iff, reduceCtorEq, and_false, exists_false] at ho
      | makeSlice t l k => exfalso; simp only [cOp, hop] at ho; obtain ⟨_, _, e⟩ := cMk_some P ho; cases e
      | defer k =>
        exfalso
        obtain ⟨callee, xs, ts⟩ := k
        cases callee <;> simp only [cOp, hop, reduceCtorEq] at ho
        repeat' (first | (obtain ⟨_, _, ho⟩ := ho) | (split at ho) | (simp only [Option.bind_eq_some_iff, Option.map_eq_some_iff, Option.some.injEq, reduceCtorEq, and_false, exists_false] at ho))
      | _ =>
        exfalso
        simp only [cOp, hop, reduceCtorEq] at ho
        repeat' (first | (obtain ⟨_, _, ho⟩ := ho) | (split at ho) | (simp only [Option.bind_eq_some_iff, Option.map_eq_some_iff, Option.some.injEq, reduceCtorEq, and_false, exists_false] at ho))
    obtain ⟨g, xs, ts, hop, hg, hx⟩ := hop
    have hu := RepR.arg Z pr.env hg hf
    simp only [RepR] at hu
    obtain ⟨hD, hv⟩ := hu
    have hR := RepRs.args Z pr.env hx h1
    obtain ⟨fn, tmps, assign, body, hy, hround⟩ := hC.y q vs s.heap id v h' h2 c (xs.map a.eval) hU hE pr.H pr.heap pr.fresh (by simpa using hR) hD
    refine ⟨fun f _ => FR_fn R f, ?_⟩
    have hsem : o.semAt (FR R).round a.eval = execOp a.eval o := Oper.semAt_eq _ _ _ (fun k e => by rw [hop] at e; cases e)
    have hrun : (execOp a.eval o).run P c.w = .ok (.round (c.g.blk q) fn tmps assign body) c.w := by
      simp only [execOp, hop, resolve, hv, Deferred.ofValue, Sem.run_bind, Sem.run_pure, Result.andThen_ok, invoke, Array.empty_append, hy]
    rw [hsem, hrun]
    have hdep : ((FR R).depth.isSome = true → 1 ≤ 0) := by rw [FR_depth]; simp
    refine ⟨hdep, ?_⟩
    have hmono := hround.mono (R' := fun
      | .returned v, w'' => K (a.put o.dst v) w''
      | .panicked chain, w'' => Q (.panic chain) a w''
      | .outgrown, _ => LetsOut Q) (fun e w' hq => by
        obtain ⟨x, rfl, g', k1, k2, k3, k4⟩ := hq
        exact hb.val _ _ rfl x w' g' (a.put o.dst x) k1 k2 k4 k3 rfl rfl rfl rfl (by rw [put_defers]; exact pr.dfs.mono k1.ev) pr.rv)
    have e : Machine.fenced P (FR R) = Machine.fenced P Fence.wide := by cases R <;> rfl
    refine ⟨FR_fn R fn, fun cc cs hroom => ?_⟩
    obtain ⟨ee, w', k1, k2⟩ := hmono.2 cc cs (room_wide _)
    rw [e]
    exact ⟨ee, w', k1, k2⟩

theorem opFix_sound {R : Option Nat} {id : Id} {o : Oper} {io : IOp} {d : Option Nat} {g : Option (Nat × Bool)} (m : Bool) (hC : SoundB P Z w0 bc C) (hE : Evolve bc c) (hU : Under w0 c) (pr : Pre Z c id s a) (ho : cOp P Z o = some io) (hd : R = none ∨ isDfr io = false) {r : OpOut} (he : evOp C id (fixO m ⟨d, io, g⟩).op s = some r) {K : Act → World → Prop} {Q : Exit → Act → World → Prop} (hb : Behind P Z c id s a o r K Q) : o.wpIn (FR R) 0 P a c.w K Q := by
  have key : (∃ ix, io = .cvBytes ix ∧ (fixO m ⟨d, io, g⟩).op = .cvBytesM ix) ∨ (fixO m ⟨d, io, g⟩).op = io := by
    cases m with
    | false => exact .inr rfl
    | true => cases io <;> first | exact .inr rfl | exact .inl ⟨_, rfl, rfl⟩
  rcases key with ⟨ix, rfl, hio⟩ | hio
  · rw [hio] at he
    obtain ⟨sT, dT, e, x, hop, h1, h2, h3, h4⟩ := cOp_bytes ho
    obtain ⟨v, s1, rfl⟩ := ev_val he rfl
    exact opIn (hd.imp (fun e => e) fun h => cOp_dfr ho h) ((opCvBytesM pr h1 h2 h3 h4 hop he).wp pr hb)
  · rw [hio] at he
    exact opIn_sound hC hE hU pr ho hd he hb

theorem ops_sound (m : Bool) {R : Option Nat} (hC : SoundB P Z w0 bc C) {ops : Array Oper} (hlt : ∀ (j : Nat) (d : Tmp), (ops[j]?).bind (·.dst) = some d → d < nt) {Q : Exit → Act → World → Prop} :
    ∀ (l : List Oper) (is : List IOper), cOpers P Z nt ops l = some is → (R = none ∨ ∀ o ∈ is, isDfr o.op = false) → ∀ (k : Nat) (c : Conf) (s : St) (a : Act) (x : Ex) (s' : St), evOps C k (is.map (fixO m)) s = some (x, s') → SR Z w0 bc nt c s a k →
      (∀ e a' w', Post Z nt c s a x s' k (k + is.length) e a' w' → s'.next = s.next → Q e a' w') → wpListIn (FR R) 0 P ops Q l a c.w
  | [], is, hc, hR, k, c, s, a, x, s', he, hs, hQ => by
    simp only [cOpers, Option.some.injEq] at hc
    subst hc
    simp only [List.map_nil, evOps, Option.some.injEq, Prod.mk.injEq] at he
    obtain ⟨rfl, rfl⟩ := he
    refine hQ _ _ _ ⟨c.g, ?_, ?_, fun j hj => .inl hj, rfl, hs.size, ?_, hs.rv, ?_⟩ rfl
    · rw [← hs.H]; exact Step.refl c
    · rw [← hs.H]; exact hs.heap
    · rw [← hs.H]; exact hs.dfs
    · simp only [ExOK]
      rw [← hs.H]; exact hs.env
  | o :: r, is, hc, hR, k, c, s, a, x, s', he, hs, hQ => by
    simp only [cOpers, Option.bind_eq_some_iff, Option.some.injEq] at hc
    obtain ⟨io, h1, il, h2, rfl⟩ := hc
    unfold cOper at h1
    split at h1
    · rename_i hd
      simp only [Option.bind_eq_some_iff, Option.map_eq_some_iff] at h1
      obtain ⟨iop, h3, g, h4, rfl⟩ := h1
      have hfg : (fixO m ⟨o.dst, iop, g⟩).guard = g := by cases m <;> rfl
      have hfd : (fixO m ⟨o.dst, iop, g⟩).dst = o.dst := by cases m <;> rfl
      simp only [List.map_cons, evOps, Option.bind_eq_some_iff, hfg, hfd] at he
      obtain ⟨t, h5, h6⟩ := he
      have hw := wanted_of hs.env hs.size h4 hlt h5
      have hdst : ∀ q, o.dst = some q → q < a.tmps.size := by
        intro q hq
        rw [hq] at hd
        rw [hs.size]
        simpa using hd
      -- going on
      have next : ∀ (v : RV) (s1 : St) (vv : Value) (w1 : World) (g1 : Gh) (a1 : Act), Step c ⟨g1, w1, s1.heap⟩ → HeapOK Z ⟨g1, w1, s1.heap⟩ → RepR Z ⟨g1, w1, s1.heap⟩ v vv → (∀ j, g1.D j → c.g.D j ∨ (s.pre ++ [k]) <+: j) → s1.env = s.env → s1.pre = s.pre → s1.next = s.next → a1.tmps = (a.put o.dst vv).tmps → DfsR Z ⟨g1, w1, s1.heap⟩ s1.dfs a1.defers → s1.rv = none →
          evOps C (k + 1) (il.map (fixO m)) (s1.put o.dst v) = some (x, s') → wpListIn (FR R) 0 P ops Q r a1 w1 := by
        intro v s1 vv w1 g1 a1 g2 g3 g4 g5 g6 g7 gn ga gd gr g8
        have hs1 : SR Z w0 bc nt ⟨g1, w1, (s1.put o.dst v).heap⟩ (s1.put o.dst v) a1 (k + 1) := by
          refine ⟨by rw [put_heap]; exact hs.under.step g2, by rw [put_heap]; exact hs.ev.trans g2.ev, rfl, by rw [put_heap]; exact g3, ?_, by rw [ga, put_size]; exact hs.size, fun i hi m hm => ?_, by rw [put_dfs, put_heap]; exact gd, by rw [put_rv]; exact gr⟩
          · rw [put_heap, ga]
            exact EnvOK.putO (hs.env.mono Z g2.ev) hdst g4 g6
          · rw [put_pre, g7]
            rcases g5 i hi with h | h
            · exact hs.fresh i h m (by omega)
            · intro h'
              have := prefix_one h h'
              omega
        refine ops_sound m hC hlt r il h2 (hR.imp id fun h o ho => h o (List.mem_cons_of_mem _ ho)) (k + 1) _ _ _ x s' g8 hs1 (fun e a' w' hp hn => hQ e a' w' ?_ (by rw [hn, put_next, gn]))
        obtain ⟨g', hp⟩ := hp
        refine ⟨g', g2.trans (by have := hp.step; rwa [put_heap] at this), hp.heap, fun j hj => ?_, by rw [hp.pre, put_pre, g7], hp.size, hp.dfs, hp.rv, hp.ex⟩
        rcases hp.D j hj with h | ⟨m, h7, h8, h9⟩
        · rcases g5 j h with h | h
          · exact .inl h
          · exact .inr ⟨k, Nat.le_refl _, by simp, h⟩
        · rw [put_pre, g7] at h9
          exact .inr ⟨m, by omega, by simp; omega, h9⟩
      unfold wpListIn
      cases t with
      | true =>
        rw [if_pos (by rw [hw])]
        simp only [if_true, Option.bind_eq_some_iff] at h6
        obtain ⟨out, h7, h8⟩ := h6
        have pr : Pre Z c (s.pre ++ [k]) s a := ⟨hs.H, hs.heap, hs.env, fun i hi => hs.fresh i hi k (Nat.le_refl _), hs.dfs, hs.rv⟩
        refine opFix_sound m hC hs.ev hs.under pr h3 (hR.imp id fun h => h { dst := o.dst, op := iop, guard := g } (by simp)) h7 ⟨fun v s1 hv vv w1 g1 a1 g2 g3 g4 g5 g6 g7 g8 ga gd gr => ?_, fun d s1 hd2 xx w1 g1 g2 g3 g4 g5 g0 g6 g7 gd gr => ?_⟩
        · subst hv
          exact next v s1 vv w1 g1 a1 g2 g3 g4 g5 g6 g7 g8 ga gd gr h8
        · subst hd2
          simp only [Option.some.injEq, Prod.mk.injEq] at h8
          obtain ⟨rfl, rfl⟩ := h8
          refine hQ _ _ _ ⟨g1, g2, g3, fun j hj => ?_, g6, hs.size, by rw [gd]; exact hs.dfs.mono g2.ev, by rw [gr]; exact hs.rv, ⟨⟨xx, rfl, g4⟩, by rw [g0]; exact hs.env.mono Z g2.ev⟩⟩ g7
          rcases g5 j hj with h | h
          · exact .inl h
          · exact .inr ⟨k, Nat.le_refl _, by simp, h⟩
      | false =>
        rw [if_neg (by rw [hw]; simp)]
        simp only [Bool.false_eq_true, if_false] at h6
        refine ⟨fun f _ => FR_fn R f, ?_⟩
        exact next (.tup []) s undef c.w c.g (a.put o.dst undef) (by rw [← hs.H]; exact Step.refl c) (by rw [← hs.H]; exact hs.heap) (by simp only [RepR, RepRs]; exact ⟨#[], rfl, rfl⟩) (fun j hj => .inl hj) rfl rfl rfl rfl (by rw [put_defers, ← hs.H]; exact hs.dfs) hs.rv h6
    · simp at h1

end
end Go.Proofs.YtkcbomohgbafoaaDoor
/- Regions whose order the machine draws. -/
set_option linter.unusedVariables false
set_option linter.unusedSimpArgs false
namespace Go.Proofs.YtkcbomohgbafoaaDoor
open Go

def runI (C : Calls') (b : Nat) : List (Nat × IOper) → St → Option St
  | [], s => some s
  | x :: r, s => (stepI C b x s).bind (runI C b r)
def enumI : Nat → List IOper → List (Nat × IOper)
  | _, [] => []
  | j, o :: r => (j, o) :: enumI (j + 1) r

theorem enumI_get : ∀ {l : List IOper} {j i : Nat} {o : IOper}, (i, o) ∈ enumI j l → j ≤ i ∧ l[i - j]? = some o
  | [], j, i, o, h => by simp [enumI] at h
  | p :: r, j, i, o, h => by
    simp only [enumI, List.mem_cons, Prod.mk.injEq] at h
    rcases h with ⟨rfl, rfl⟩ | h
    · exact ⟨Nat.le_refl _, by simp⟩
    · obtain ⟨h1, h2⟩ := enumI_get h
      refine ⟨by omega, ?_⟩
      rw [show i - j = (i - (j + 1)) + 1 by omega, List.getElem?_cons_succ]
      exact h2
theorem enumI_mem : ∀ {l : List IOper} {j i : Nat} {o : IOper}, l[i]? = some o → (j + i, o) ∈ enumI j l
  | [], j, i, o, h => by simp at h
  | p :: r, j, 0, o, h => by simp at h; subst h; simp [enumI]
  | p :: r, j, i + 1, o, h => by
    simp only [List.getElem?_cons_succ] at h
    have := enumI_mem (j := j + 1) h
    simp only [enumI, List.mem_cons]
    right
    rwa [show j + 1 + i = j + (i + 1) by omega] at this
theorem enumI_sorted : ∀ (l : List IOper) (j : Nat), (enumI j l).Pairwise (fun x y => x.1 < y.1)
  | [], j => List.Pairwise.nil
  | p :: r, j => by
    simp only [enumI, List.pairwise_cons]
    refine ⟨fun y hy => ?_, enumI_sorted r (j + 1)⟩
    obtain ⟨i, o⟩ := y
    have := (enumI_get hy).1
    simp only
    omega
theorem enumI_length : ∀ (l : List IOper) (j : Nat), (enumI j l).length = l.length
  | [], j => rfl
  | p :: r, j => by simp [enumI, enumI_length r]

theorem runI_of {C : Calls'} {b : Nat} : ∀ {is : List IOper} {j : Nat} {s s' : St}, evOps C (b + j) is s = some (.normal, s') → runI C b (enumI j is) s = some s'
  | [], j, s, s', h => by simp only [evOps, Option.some.injEq, Prod.mk.injEq, true_and] at h; subst h; rfl
  | o :: r, j, s, s', h => by
    simp only [evOps, Option.bind_eq_some_iff] at h
    obtain ⟨t, h1, h2⟩ := h
    simp only [enumI, runI, stepI, core, h1]
    cases t with
    | false =>
      simp only [Bool.false_eq_true, if_false] at h2
      exact runI_of (by rw [← Nat.add_assoc]; exact h2)
    | true =>
      simp only [if_true, Option.bind_eq_some_iff] at h2
      obtain ⟨out, h3, h4⟩ := h2
      cases out with
      | pan d s1 => simp at h4
      | val v s1 =>
        simp only [h3]
        exact runI_of (by rw [← Nat.add_assoc]; exact h4)

/-- An operation that may, to the front. -/
theorem runI_front {C : Calls'} {b : Nat} {y : Nat × IOper} {l2 : List (Nat × IOper)} : ∀ {l1 : List (Nat × IOper)} {s s' : St}, (∀ x ∈ l1, comm x.2 y.2 = true) → runI C b (l1 ++ y :: l2) s = some s' → runI C b (y :: (l1 ++ l2)) s = some s'
  | [], s, s', h, hr => hr
  | x :: l1, s, s', h, hr => by
    simp only [List.cons_append, runI, Option.bind_eq_some_iff] at hr ⊢
    obtain ⟨s1, h1, h2⟩ := hr
    have h3 := runI_front (fun z hz => h z (List.mem_cons_of_mem _ hz)) h2
    simp only [runI, Option.bind_eq_some_iff] at h3
    obtain ⟨s2, h4, h5⟩ := h3
    obtain ⟨s1', h6, h7⟩ := stepI_swap (h x (by simp)) h1 h4
    exact ⟨s1', h6, s2, h7, h5⟩

theorem pureCall_ev {C : Calls'} {id : Id} {o : IOper} {s s' : St} {v : RV} (h : evOp C id (pureCall o).op s = some (.val v s')) : evOp C id o.op s = some (.val v s') := by
  obtain ⟨dst, op, g⟩ := o
  cases op <;> simp only [pureCall] at h ⊢ <;> try exact h
  split at h
  · exact h
  rename_i hsh
  simp only [evOp, Option.bind_eq_some_iff] at h ⊢
  obtain ⟨vs, h1, ds, h2, out, h3, h4⟩ := h
  refine ⟨vs, h1, ?_⟩
  simp only [doCall, h2, h3, if_neg hsh, Option.bind_some]
  cases out with
  | ret l => exact h4
  | pan d => simp at h4
theorem pureCall_dst (o : IOper) : (pureCall o).dst = o.dst := rfl
theorem pureCall_guard (o : IOper) : (pureCall o).guard = o.guard := rfl

theorem binds_any {md : Region.Mode} {e : Edge} (h : Region.binds .any e = true) : Region.binds md e = true := by
  obtain ⟨on, g⟩ := e
  unfold Region.binds at h ⊢
  cases g <;> first | rfl | exact absurd h (by decide) | (exact absurd h (by show ¬ (_ == _) = true; decide))

section
variable {P : Program} {Z : Seat} {w0 : World} {bc : Conf} {c : Conf} {s s' : St} {a : Act} {C : Calls'} {nt : Nat}

theorem cOpers_get {ops : Array Oper} : ∀ {l : List Oper} {is : List IOper}, cOpers P Z nt ops l = some is → l.length = is.length ∧ ∀ (i : Nat) (o : IOper), is[i]? = some o → ∃ op, l[i]? = some op ∧ cOper P Z nt ops op = some o
  | [], is, h => by simp only [cOpers, Option.some.injEq] at h; subst h; exact ⟨rfl, fun i o ho => by simp at ho⟩
  | p :: r, is, h => by
    simp only [cOpers, Option.bind_eq_some_iff, Option.some.injEq] at h
    obtain ⟨io, h1, il, h2, rfl⟩ := h
    obtain ⟨h3, h4⟩ := cOpers_get h2
    refine ⟨by simp [h3], fun i o ho => ?_⟩
    cases i with
    | zero => simp only [List.getElem?_cons_zero, Option.some.injEq] at ho; subst ho; exact ⟨p, by simp, h1⟩
    | succ i => obtain ⟨op, h5, h6⟩ := h4 i o (by simpa using ho); exact ⟨op, by simpa using h5, h6⟩

theorem ready_iff {md : Region.Mode} {ops : Array Oper} {listed : Array Bool} {i : Nat} : i ∈ Region.ready md ops listed ↔ i < ops.size ∧ listed.getD i true = false ∧ ∃ o, ops[i]? = some o ∧ ∀ e ∈ o.after.toList, Region.binds md e = true → listed.getD e.on false = true := by
  unfold Region.ready
  simp only [List.mem_filter, List.mem_range, Bool.and_eq_true, Bool.not_eq_true']
  refine and_congr_right fun hi => and_congr_right fun hl => ?_
  have hi' : ops[i]? = some ops[i] := Array.getElem?_eq_getElem hi
  simp only [hi', Option.map_some, Option.getD_some, Option.some.injEq, exists_eq_left']
  rw [← Array.all_toList]
  simp only [List.all_eq_true, Bool.or_eq_true, Bool.not_eq_true']
  constructor
  · intro h e he hb
    rcases h e he with h | h
    · rw [hb] at h; simp at h
    · exact h
  · intro h e he
    cases hb : Region.binds md e with
    | false => exact .inl rfl
    | true => exact .inr (h e he hb)

theorem any_sound {R : Option Nat} (hC : SoundB P Z w0 bc C) {ops : Array Oper} {is : List IOper} (hc : cOpers P Z nt ops ops.toList = some is) (hd : drawOK ops (is.map pureCall) = true) (hR : R = none ∨ ∀ o ∈ is, isDfr o.op = false) (b : Nat) (md : Region.Mode) {Q : Exit → Act → World → Prop} :
    ∀ (fuel : Nat) (listed : Array Bool) (l : List (Nat × IOper)) (c : Conf) (s : St) (a : Act) (s' : St),
      listed.size = ops.size → l.length = fuel → l.Pairwise (fun x y => x.1 < y.1) → (∀ i o, (i, o) ∈ l → (is.map pureCall)[i]? = some o ∧ listed.getD i true = false) → (∀ i, i < ops.size → listed.getD i true = false → ∃ o, (i, o) ∈ l) →
      (∀ i, listed.getD i false = true → ∀ z ∈ aftOf ops i, listed.getD z false = true) → runI C b l s = some s' →
      Under w0 c → Evolve bc c → c.H = s.heap → HeapOK Z c → EnvOK Z c s.env a.tmps → a.tmps.size = nt → (∀ i, c.g.D i → ∀ x ∈ l, ¬ (s.pre ++ [b + x.1]) <+: i) → DfsR Z c s.dfs a.defers → s.rv = none →
      (∀ a' w', Post Z nt c s a .normal s' b (b + ops.size) .normal a' w' → s'.next = s.next → Q .normal a' w') → wpAnyIn (FR R) 0 P md ops Q fuel listed a c.w := by
  -- what the check says
  have hlen := (cOpers_get hc).1
  have hchk : ∀ j, j < ops.size → (∀ o, ops[j]? = some o → ∀ e ∈ o.after.toList, e.on < j) ∧ ∀ i, i < j → (∃ p q, (is.map pureCall)[i]? = some p ∧ (is.map pureCall)[j]? = some q ∧ comm p q = true) ∨ reachB (aftOf ops) j j i = true := by
    intro j hj
    unfold drawOK at hd
    have := List.all_eq_true.1 hd j (List.mem_range.2 hj)
    simp only [Bool.and_eq_true, List.all_eq_true, List.mem_range, Bool.or_eq_true] at this
    obtain ⟨h1, h2⟩ := this
    refine ⟨fun o ho e he => ?_, fun i hi => ?_⟩
    · simp only [ho, List.all_eq_true, decide_eq_true_eq] at h1
      exact h1 e he
    · rcases h2 i hi with h | h
      · left
        split at h
        · rename_i p q hp hq
          exact ⟨p, q, hp, hq, h⟩
        · simp at h
      · exact .inr h
  have hlt : ∀ (j : Nat) (d : Tmp), (ops[j]?).bind (·.dst) = some d → d < nt := by
    intro j d hjd
    have hget := (cOpers_get hc).2
    cases hj : ops[j]? with
    | none => simp [hj] at hjd
    | some o =>
      simp only [hj, Option.bind_some] at hjd
      have hj2 : j < is.length := by
        rw [← hlen]
        simpa using (Array.getElem?_eq_some_iff.1 hj).1
      obtain ⟨op, h1, h2⟩ := hget j _ (List.getElem?_eq_getElem hj2)
      have e : op = o := by
        rw [Array.getElem?_toList, hj] at h1
        simpa using h1.symm
      subst e
      unfold cOper at h2
      split at h2
      · rename_i h3
        rw [hjd] at h3
        simpa using h3
      · simp at h2
  -- one that is reached has been listed
  have hreach : ∀ (listed : Array Bool), (∀ i, listed.getD i false = true → ∀ z ∈ aftOf ops i, listed.getD z false = true) → ∀ (f j i : Nat), (∀ z ∈ aftOf ops j, listed.getD z false = true) → reachB (aftOf ops) f j i = true → listed.getD i false = true := by
    intro listed hcl f
    induction f with
    | zero => intro j i _ h; simp [reachB] at h
    | succ f ih =>
      intro j i hj h
      simp only [reachB, Bool.or_eq_true, List.any_eq_true] at h
      rcases h with h | ⟨z, hz, h⟩
      · exact hj i (by simpa using h)
      · exact ih z i (hcl z (hj z hz)) h
  intro fuel
  induction fuel with
  | zero =>
    intro listed l c s a s' hls hlf hpw hin hout hcl hrun hU hE hH hheap henv hsz hfr hdfs hrv hQ
    have hl0 : l = [] := List.eq_nil_of_length_eq_zero hlf
    subst hl0
    simp only [runI, Option.some.injEq] at hrun
    subst hrun
    refine ⟨?_, hQ a c.w ⟨c.g, by rw [← hH]; exact Step.refl c, by rw [← hH]; exact hheap, fun j hj => .inl hj, rfl, hsz, by rw [← hH]; exact hdfs, hrv, ?_⟩ rfl⟩
    · apply List.eq_nil_iff_forall_not_mem.2
      intro i hi
      obtain ⟨h1, h2, _⟩ := ready_iff.1 hi
      obtain ⟨o, ho⟩ := hout i h1 h2
      simp at ho
    · simp only [ExOK]; rw [← hH]; exact henv
  | succ fuel ih =>
    intro listed l c s a s' hls hlf hpw hin hout hcl hrun hU hE hH hheap henv hsz hfr hdfs hrv hQ
    have hget : ∀ (i : Nat) (o : IOper), (is.map pureCall)[i]? = some o → ∃ op io, ops[i]? = some op ∧ cOper P Z nt ops op = some io ∧ o = pureCall io ∧ io ∈ is := by
      intro i o ho
      rw [List.getElem?_map] at ho
      simp only [Option.map_eq_some_iff] at ho
      obtain ⟨io, h1, rfl⟩ := ho
      obtain ⟨op, h2, h3⟩ := (cOpers_get hc).2 i io h1
      exact ⟨op, io, by rwa [Array.getElem?_toList] at h2, h3, rfl, List.mem_of_getElem? h1⟩
    have hfalse : ∀ i, i < ops.size → listed.getD i true = false → listed.getD i false = false := by
      intro i hi h
      have : i < listed.size := by omega
      simp only [Array.getD_eq_getD_getElem?, Array.getElem?_eq_getElem this, Option.getD_some] at h ⊢
      exact h
    have htrue : ∀ i, i < ops.size → listed.getD i true = true → listed.getD i false = true := by
      intro i hi h
      have : i < listed.size := by omega
      simp only [Array.getD_eq_getD_getElem?, Array.getElem?_eq_getElem this, Option.getD_some] at h ⊢
      exact h
    refine ⟨fun hr => ?_, fun i hi => ?_⟩
    · -- the first of those that are left can be run
      exfalso
      cases l with
      | nil => simp at hlf
      | cons x l' =>
        obtain ⟨i0, o0⟩ := x
        obtain ⟨h1, h2⟩ := hin i0 o0 (by simp)
        obtain ⟨op, io, h3, h4, _, _⟩ := hget i0 o0 h1
        have hi0 : i0 < ops.size := (Array.getElem?_eq_some_iff.1 h3).1
        have hmem : i0 ∈ Region.ready md ops listed := by
          refine ready_iff.2 ⟨hi0, h2, op, h3, fun e he hb => ?_⟩
          have hlt0 := (hchk i0 hi0).1 op h3 e he
          cases hle : listed.getD e.on true with
          | true => exact htrue e.on (by omega) hle
          | false =>
            obtain ⟨o', ho'⟩ := hout e.on (by omega) hle
            simp only [List.mem_cons, Prod.mk.injEq] at ho'
            rcases ho' with ⟨h5, _⟩ | h5
            · omega
            · have := (List.pairwise_cons.1 hpw).1 _ h5
              simp only at this
              omega
        rw [hr] at hmem
        simp at hmem
    · obtain ⟨hilt, hiu, op', hop', haft⟩ := ready_iff.1 hi
      obtain ⟨o, ho⟩ := hout i hilt hiu
      obtain ⟨h1, _⟩ := hin i o ho
      obtain ⟨op, io, h3, h4, rfl, hio⟩ := hget i o h1
      have e0 : op' = op := by rw [hop'] at h3; simpa using h3
      subst e0
      obtain ⟨l1, l2, rfl⟩ := List.append_of_mem ho
      have hany : ∀ z ∈ aftOf ops i, listed.getD z false = true := by
        intro z hz
        simp only [aftOf, h3, List.mem_map, List.mem_filter] at hz
        obtain ⟨e, ⟨he, hb⟩, rfl⟩ := hz
        exact haft e he (binds_any hb)
      have hcomm : ∀ x ∈ l1, comm x.2 (pureCall io) = true := by
        rintro ⟨k, p⟩ hx
        have hki : k < i := by
          rw [List.pairwise_append] at hpw
          exact hpw.2.2 _ hx (i, pureCall io) (by simp)
        obtain ⟨g1, g2⟩ := hin k p (by simp [hx])
        rcases (hchk i hilt).2 k hki with ⟨p', q', g3, g4, g5⟩ | hr
        · rw [g1] at g3
          rw [h1] at g4
          simp only [Option.some.injEq] at g3 g4
          rw [g3, g4]
          exact g5
        · have g6 := hreach listed hcl i i k hany hr
          have g7 := hfalse k (by omega) g2
          rw [g6] at g7
          simp at g7
      have hrun2 := runI_front hcomm hrun
      simp only [runI, Option.bind_eq_some_iff] at hrun2
      obtain ⟨s1, hst, hrest⟩ := hrun2
      -- what is left behind this one
      have hlf' : (l1 ++ l2).length = fuel := by simp at hlf ⊢; omega
      have hpw' : (l1 ++ l2).Pairwise (fun x y => x.1 < y.1) := by
        rw [List.pairwise_append] at hpw ⊢
        obtain ⟨p1, p2, p3⟩ := hpw
        exact ⟨p1, (List.pairwise_cons.1 p2).2, fun x hx y hy => p3 x hx y (List.mem_cons_of_mem _ hy)⟩
      have hne : ∀ k p, (k, p) ∈ l1 ++ l2 → k ≠ i := by
        intro k p hk
        rw [List.pairwise_append] at hpw
        obtain ⟨p1, p2, p3⟩ := hpw
        rcases List.mem_append.1 hk with hk | hk
        · have := p3 _ hk (i, pureCall io) (by simp)
          simp only at this
          omega
        · have := (List.pairwise_cons.1 p2).1 _ hk
          simp only at this
          omega
      have hset : ∀ (k : Nat) (d : Bool), k ≠ i → (listed.setIfInBounds i true).getD k d = listed.getD k d := by
        intro k d hk
        rw [Array.getD_eq_getD_getElem?, Array.getElem?_setIfInBounds_ne (by omega), ← Array.getD_eq_getD_getElem?]
      have hseti : ∀ d : Bool, (listed.setIfInBounds i true).getD i d = true := by
        intro d
        have : i < listed.size := by omega
        simp [Array.getD_eq_getD_getElem?, this]
      have hin' : ∀ k p, (k, p) ∈ l1 ++ l2 → (is.map pureCall)[k]? = some p ∧ (listed.setIfInBounds i true).getD k true = false := by
        intro k p hk
        obtain ⟨g1, g2⟩ := hin k p (by rcases List.mem_append.1 hk with h | h <;> simp [h])
        exact ⟨g1, by rw [hset k true (hne k p hk)]; exact g2⟩
      have hout' : ∀ k, k < ops.size → (listed.setIfInBounds i true).getD k true = false → ∃ p, (k, p) ∈ l1 ++ l2 := by
        intro k hk h
        by_cases hki : k = i
        · subst hki; rw [hseti] at h; simp at h
        · rw [hset k true hki] at h
          obtain ⟨p, hp⟩ := hout k hk h
          refine ⟨p, ?_⟩
          simp only [List.mem_append, List.mem_cons, Prod.mk.injEq] at hp ⊢
          rcases hp with hp | ⟨rfl, _⟩ | hp
          · exact .inl hp
          · exact absurd rfl hki
          · exact .inr hp
      have hmono : ∀ k, listed.getD k false = true → (listed.setIfInBounds i true).getD k false = true := by
        intro k hk
        by_cases hki : k = i
        · subst hki; exact hseti false
        · rw [hset k false hki]; exact hk
      have hcl' : ∀ k, (listed.setIfInBounds i true).getD k false = true → ∀ z ∈ aftOf ops k, (listed.setIfInBounds i true).getD z false = true := by
        intro k hk z hz
        by_cases hki : k = i
        · subst hki; exact hmono z (hany z hz)
        · rw [hset k false hki] at hk
          exact hmono z (hcl k hk z hz)
      -- the operation itself
      unfold cOper at h4
      split at h4
      · rename_i hdd
        simp only [Option.bind_eq_some_iff, Option.map_eq_some_iff] at h4
        obtain ⟨iop, g3, g, g4, rfl⟩ := h4
        simp only [stepI, Option.map_eq_some_iff, pureCall_dst] at hst
        obtain ⟨⟨v, t1⟩, hcore, rfl⟩ := hst
        simp only at hrest ⊢
        have hdst : ∀ q, op'.dst = some q → q < a.tmps.size := by
          intro q hq
          rw [hq] at hdd
          rw [hsz]
          simpa using hdd
        have next : ∀ (vv : Value) (w1 : World) (g1 : Gh) (a1 : Act), Step c ⟨g1, w1, t1.heap⟩ → HeapOK Z ⟨g1, w1, t1.heap⟩ → RepR Z ⟨g1, w1, t1.heap⟩ v vv → (∀ j, g1.D j → c.g.D j ∨ (s.pre ++ [b + i]) <+: j) → t1.env = s.env → t1.pre = s.pre → t1.next = s.next → a1.tmps = (a.put op'.dst vv).tmps → DfsR Z ⟨g1, w1, t1.heap⟩ t1.dfs a1.defers → t1.rv = none →
            wpAnyIn (FR R) 0 P md ops Q fuel (listed.setIfInBounds i true) a1 w1 := by
          intro vv w1 g1 a1 k2 k3 k4 k5 k6 k7 k8 ka kd kr
          refine ih (listed.setIfInBounds i true) (l1 ++ l2) ⟨g1, w1, (t1.put op'.dst v).heap⟩ (t1.put op'.dst v) a1 s' (by simp [hls]) hlf' hpw' hin' hout' hcl' hrest (by rw [put_heap]; exact hU.step k2) (by rw [put_heap]; exact hE.trans k2.ev) rfl (by rw [put_heap]; exact k3) ?_ (by rw [ka, put_size]; exact hsz) (fun j hj x hx => ?_) (by rw [put_dfs, put_heap]; exact kd) (by rw [put_rv]; exact kr) (fun a' w' hp hn => hQ a' w' ?_ (by rw [hn, put_next, k8]))
          · rw [put_heap, ka]
            exact EnvOK.putO (henv.mono Z k2.ev) hdst k4 k6
          · rw [put_pre, k7]
            rcases k5 j hj with h | h
            · exact hfr j h x (by rcases List.mem_append.1 hx with h | h <;> simp [h])
            · intro h'
              have := prefix_one h h'
              exact hne x.1 x.2 hx (by omega)
          · obtain ⟨g', hp⟩ := hp
            refine ⟨g', k2.trans (by have := hp.step; rwa [put_heap] at this), hp.heap, fun j hj => ?_, by rw [hp.pre, put_pre, k7], hp.size, hp.dfs, hp.rv, hp.ex⟩
            rcases hp.D j hj with h | ⟨m, h7, h8, h9⟩
            · rcases k5 j h with h | h
              · exact .inl h
              · exact .inr ⟨b + i, by omega, by omega, h⟩
            · rw [put_pre, k7] at h9
              exact .inr ⟨m, h7, h8, h9⟩
        unfold core at hcore
        simp only [wpOpIn, h3]
        split at hcore
        · rename_i hw
          have hwant := wanted_of henv hsz g4 hlt hw
          rw [if_pos (by rw [hwant])]
          split at hcore
          · rename_i v0 t0 hev
            simp only [Option.some.injEq, Prod.mk.injEq] at hcore
            obtain ⟨rfl, rfl⟩ := hcore
            have hev2 := pureCall_ev hev
            have pr : Pre Z c (s.pre ++ [b + i]) s a := ⟨hH, hheap, henv, fun j hj => hfr j hj (i, _) ho, hdfs, hrv⟩
            refine opIn_sound hC hE hU pr g3 (hR.imp id fun h => h _ hio) hev2 ⟨fun v1 s1 hv vv w1 g1 a1 k2 k3 k4 k5 k6 k7 k8 ka kd kr => ?_, fun d s1 hd2 => by simp at hd2⟩
            simp only [OpOut.val.injEq] at hv
            obtain ⟨rfl, rfl⟩ := hv
            exact next vv w1 g1 a1 k2 k3 k4 k5 k6 k7 k8 ka kd kr
          · simp at hcore
        · rename_i hw
          have hwant := wanted_of henv hsz g4 hlt hw
          rw [if_neg (by rw [hwant]; simp)]
          simp only [Option.some.injEq, Prod.mk.injEq] at hcore
          obtain ⟨rfl, rfl⟩ := hcore
          refine ⟨fun f _ => FR_fn R f, ?_⟩
          exact next undef c.w c.g (a.put op'.dst undef) (by rw [← hH]; exact Step.refl c) (by rw [← hH]; exact hheap) (by simp only [RepR, RepRs]; exact ⟨#[], rfl, rfl⟩) (fun j hj => .inl hj) rfl rfl rfl rfl (by rw [put_defers, ← hH]; exact hdfs) hrv
        · simp at hcore
      · simp at h4

end
end Go.Proofs.YtkcbomohgbafoaaDoor
