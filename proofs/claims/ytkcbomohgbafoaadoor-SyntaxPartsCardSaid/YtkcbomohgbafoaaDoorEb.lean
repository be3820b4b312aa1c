/- Each operation of the evaluator does what the machine's operation does. -/
import Derived.Test.YtkcbomohgbafoaaDoorEa
import Derived.Laws.Entries
import Derived.Laws.CopyRow
import Derived.Laws.StructEq
import Derived.Lib.ConvBytes
import Derived.Laws.BytesArg
import Derived.Laws.Small
set_option linter.unusedVariables false
set_option linter.unusedSimpArgs false
namespace Go.Proofs.YtkcbomohgbafoaaDoor
open Go

section
variable (P : Program) (Z : Seat)

/-- What an operation comes to. -/
def Done (c : Conf) (id : Id) (s : St) (s' : St) (v : RV) (r : Result Next) : Prop :=
  ∃ vv w' g', (r = .ok (.value vv) w' ∨ (r = .ok .skip w' ∧ vv = undef)) ∧ Step c ⟨g', w', s'.heap⟩ ∧ HeapOK Z ⟨g', w', s'.heap⟩ ∧ RepR Z ⟨g', w', s'.heap⟩ v vv ∧ (∀ j, g'.D j → c.g.D j ∨ id <+: j) ∧ s'.env = s.env ∧ s'.pre = s.pre ∧ s'.next = s.next ∧ s'.dfs = s.dfs ∧ s'.rv = s.rv

theorem Done.same {c : Conf} {id : Id} {s : St} {v : RV} {vv : Value} {r : Result Next} (hH : HeapOK Z c) (hc : c.H = s.heap) (hr : r = .ok (.value vv) c.w) (hv : RepR Z c v vv) : Done Z c id s s v r := by
  obtain ⟨g, w, H⟩ := c
  simp only at hc
  subst hc
  exact ⟨vv, w, g, .inl hr, Step.refl _, hH, hv, fun j hj => .inl hj, rfl, rfl, rfl, rfl, rfl⟩

/-! ### the model's small steps -/
theorem run_info {t : TypeId} {i : TypeInfo} (h : P.info? t = some i) (w : World) : (typeInfo t).run P w = .ok i w := by simp [typeInfo, h]
theorem run_size {t : TypeId} {n : Nat} (h : szOf P t = some n) (w : World) : (sizeOf t).run P w = .ok n w := by
  unfold szOf at h
  simp only [Option.map_eq_some_iff] at h
  obtain ⟨i, h1, rfl⟩ := h
  simp [sizeOf, run_info P h1]
theorem run_agg {t : TypeId} {k : Option Nat} (h : nOf P t = some k) (w : World) : (isAgg t).run P w = .ok k.isSome w := by
  unfold nOf at h
  split at h
  · rename_i h1
    simp only [Option.map_eq_some_iff] at h
    obtain ⟨n, _, rfl⟩ := h
    simp [isAgg, run_underlying h1]
  · rename_i h1
    simp only [Option.map_eq_some_iff] at h
    obtain ⟨n, _, rfl⟩ := h
    simp [isAgg, run_underlying h1]
  · rename_i d hn1 hn2 h1
    simp only [Option.some.injEq] at h
    subst h
    simp only [isAgg, Sem.run_bind, run_underlying h1, Result.andThen_ok]
    cases d <;> simp_all
  · simp at h
theorem nOf_size {t : TypeId} {n : Nat} (h : nOf P t = some (some n)) : szOf P t = some n := by
  unfold nOf at h
  split at h
  · simp only [Option.map_eq_some_iff, Option.some.injEq] at h
    obtain ⟨m, h1, rfl⟩ := h
    exact h1
  · simp only [Option.map_eq_some_iff, Option.some.injEq] at h
    obtain ⟨m, h1, rfl⟩ := h
    exact h1
  · simp at h
  · simp at h

theorem add_none (b o k : Nat) : (⟨b, o, none⟩ : Addr).add k = ⟨b, o + k, none⟩ := by
  unfold Addr.add
  split <;> simp_all

/-- A value of these cells. -/
def Got (k : Option Nat) (us : List Value) (v : Value) : Prop := match k with | none => us[0]? = some v | some n => us.length = n ∧ v = .agg us.toArray

/-- A variable read out of memory: one cell, or an aggregate's cells. -/
theorem run_loadVar' {t : TypeId} {k : Option Nat} (h : nOf P t = some k) (w : World) (b o : Nat) (vs : List Value) (hvs : ∀ j u, vs[j]? = some u → w.cell? ⟨b, o + j, none⟩ = some u) (v : Value)
    (hk : Got k vs v) : (loadVar t ⟨b, o, none⟩).run P w = .ok v w := by
  cases k with
  | none =>
    simp only [Got] at hk
    have := hvs 0 v hk
    simp only [Nat.add_zero] at this
    simp [loadVar, run_agg P h, this]
  | some n =>
    obtain ⟨h1, rfl⟩ := hk
    have := run_loadCells_list (P := P) w ⟨b, o, none⟩ vs (fun j u hu => by rw [add_none]; exact hvs j u hu)
    simp [loadVar, run_agg P h, run_size P (nOf_size P h), ← h1, this]

variable {c : Conf} {id : Id} {s s' : St} {a : Act} {o : Oper} {io : IOp} {v : RV}

/-- The deferred calls. -/
def DfsR (Z : Seat) (c : Conf) : List DE → List Deferred → Prop
  | [], ds => ds = []
  | .call f vs :: r, ds => ∃ (cap args : Array Value) (t : List Deferred), ds = { target := .fn (.func (Z.fi f)) cap, args } :: t ∧ RepRs Z c vs (args ++ cap).toList ∧ DfsR Z c r t
  | .mark d :: r, ds => ∃ (t : List Deferred), ds = { target := .collected (c.g.blk d), args := #[] } :: t ∧ c.g.D d ∧ DfsR Z c r t

theorem DfsR.mono {Z : Seat} {c c' : Conf} (h : Evolve c c') : ∀ {l : List DE} {ds : List Deferred}, DfsR Z c l ds → DfsR Z c' l ds
  | [], ds, hd => by simpa only [DfsR] using hd
  | .call f vs :: r, ds, hd => by
    simp only [DfsR] at hd ⊢
    obtain ⟨cap, args, t, h1, h2, h3⟩ := hd
    exact ⟨cap, args, t, h1, RepRs.mono Z h _ _ h2, DfsR.mono h h3⟩
  | .mark d :: r, ds, hd => by
    simp only [DfsR] at hd ⊢
    obtain ⟨t, h1, h2, h3⟩ := hd
    exact ⟨t, by rw [h.blk d h2]; exact h1, h.D d h2, DfsR.mono h h3⟩

/-- What the lemmas on operations share. -/
structure Pre (c : Conf) (id : Id) (s : St) (a : Act) : Prop where
  H : c.H = s.heap
  heap : HeapOK Z c
  env : EnvOK Z c s.env a.tmps
  fresh : ∀ i, c.g.D i → ¬ id <+: i
  dfs : DfsR Z c s.dfs a.defers
  rv : s.rv = none

theorem Pre.idD {c : Conf} {id : Id} {s : St} {a : Act} (pr : Pre Z c id s a) : ¬ c.g.D id := fun h => pr.fresh id h (List.prefix_refl _)

variable {P Z}

theorem opMove (pr : Pre Z c id s a) {x : Operand} {ix : IArg} (hx : cArg Z x = some ix) (he : val s (evArg s.env ix) = some (.val v s')) (hop : o.op = .move x ∨ o.op = .assign x) :
    Done Z c id s s' v ((execOp a.eval o).run P c.w) := by
  simp only [val, Option.bind_eq_some_iff, Option.some.injEq, OpOut.val.injEq] at he
  obtain ⟨u, h1, rfl, rfl⟩ := he
  refine Done.same Z pr.heap pr.H (vv := a.eval x) ?_ (RepR.arg Z pr.env hx h1)
  rcases hop with hop | hop <;> simp [execOp, hop]

theorem opPick (pr : Pre Z c id s a) {x y z : Operand} {ix iy iz : IArg} (hx : cArg Z x = some ix) (hy : cArg Z y = some iy) (hz : cArg Z z = some iz) (hop : o.op = .pick x y z)
    {C : Calls'} (he : evOp C id (.pick ix iy iz) s = some (.val v s')) : Done Z c id s s' v ((execOp a.eval o).run P c.w) := by
  simp only [evOp, Option.bind_eq_some_iff] at he
  obtain ⟨u, h1, h2⟩ := he
  split at h2
  · rename_i t
    simp only [val, Option.bind_eq_some_iff, Option.some.injEq, OpOut.val.injEq] at h2
    obtain ⟨q, h3, rfl, rfl⟩ := h2
    have hc := RepR.arg Z pr.env hx h1
    simp only [RepR, RepD] at hc
    refine Done.same Z pr.heap pr.H (vv := if t then a.eval y else a.eval z) ?_ ?_
    · simp [execOp, hop, hc, asBool]
    · cases t
      · exact RepR.arg Z pr.env hz h3
      · exact RepR.arg Z pr.env hy h3
  · simp at h2

theorem take_get {α : Type} {l : List α} {k j : Nat} {u : α} (h : (l.take k)[j]? = some u) : l[j]? = some u := by
  rw [List.getElem?_take] at h
  split at h
  · exact h
  · simp at h

/-- A new box. -/
theorem Done.newBox (pr : Pre Z c id s a) {cells : List RV} {vs : List Value} {T : TypeId} (h1 : RepRs Z c cells vs) (h2 : ∀ u ∈ vs, u.oneCell' = true) {r : Result Next}
    (hr : r = .ok (.value (.pointer (some ⟨c.w.heap.size, 0, none⟩))) (c.w.alloc (.cells vs.toArray T))) : Done Z c id s (s.obj id (.box cells)) (.ptr id 0) r := by
  have hst := Step.new Z pr.heap pr.idD (c.g.lp id) (.cells vs.toArray T) (.box cells) (by simp) (fun c' ev hb him _ => ⟨vs.toArray, T, (0, 0), hb, RepRs.mono Z ev _ _ (by simpa [RepRs.length Z h1] using h1), by simpa using h2, him, .inl rfl⟩)
  rw [pr.H] at hst
  refine ⟨_, _, _, .inl hr, hst.1, hst.2, ?_, fun j hj => ?_, rfl, rfl, rfl, rfl, rfl⟩
  · simp only [RepR]
    exact ⟨.inr trivial, by simp⟩
  · rcases hj with hj | hj
    · exact .inl hj
    · exact .inr (hj ▸ List.prefix_refl _)

theorem zeroOf_run {t : TypeId} {z : List RV} (h : zeroOf P t = some z) : ∃ vz, (∀ w, (zeroValue t).run P w = .ok vz w) ∧ (∀ c : Conf, RepRs Z c z vz.cells.toList) ∧ ∀ u ∈ vz.cells.toList, u.oneCell' = true := by
  unfold zeroOf at h
  simp only [Option.bind_eq_some_iff] at h
  obtain ⟨vz, ⟨i, h1, h2⟩, h3⟩ := h
  refine ⟨vz, fun w => ?_, fun c => (RepRs.const Z h3).1, (RepRs.const Z (c := ⟨⟨fun _ => 0, fun _ => 0, fun _ => 0, fun _ => 0, fun _ => False, fun _ => default⟩, default, fun _ => none⟩) h3).2⟩
  simp [zeroValue, run_info P h1, h2]

theorem opAlloc (pr : Pre Z c id s a) {t : TypeId} {z : List RV} (hz : zeroOf P t = some z) (hop : o.op = .alloc t) : Done Z c id s (s.obj id (.box z)) (.ptr id 0) ((execOp a.eval o).run P c.w) := by
  obtain ⟨vz, h1, h2, h3⟩ := zeroOf_run (Z := Z) hz
  refine Done.newBox pr (T := t) (h2 c) h3 ?_
  simp [execOp, hop, Instr.alloc, h1, newVar, newRow]

theorem opBox (pr : Pre Z c id s a) {t : TypeId} {x : Operand} {ix : IArg} (hx : cArg Z x = some ix) (hop : o.op = .box t x) {C : Calls'} (he : evOp C id (.box ix) s = some (.val v s')) :
    Done Z c id s s' v ((execOp a.eval o).run P c.w) := by
  simp only [evOp, Option.bind_eq_some_iff] at he
  obtain ⟨u, h1, h2⟩ := he
  have hu := RepR.arg Z pr.env hx h1
  have key : (∀ l, u ≠ .tup l) → some (OpOut.val (RV.ptr id 0) (s.obj id (.box (cellsR u)))) = some (OpOut.val v s') → Done Z c id s s' v ((execOp a.eval o).run P c.w) := by
    intro hnt h2
    simp only [Option.some.injEq, OpOut.val.injEq] at h2
    obtain ⟨rfl, rfl⟩ := h2
    obtain ⟨h3, h4⟩ := RepR.cells Z hu hnt
    refine Done.newBox pr (T := t) h3 h4 ?_
    simp [execOp, hop, Instr.box, newVar, newRow]
  split at h2
  · simp at h2
  · rename_i hnt
    exact key (fun l e => hnt l e) h2

/-- A read through an address. -/
theorem rdR_spec {cells : List RV} {vs : List Value} (h : RepRs Z c cells vs) (h1 : ∀ u ∈ vs, u.oneCell' = true) {off : Nat} {k : Option Nat} {r : RV} (hr : rdR cells off k = some r) :
    ∃ (us : List Value) (v : Value), (∀ j u, us[j]? = some u → vs[off + j]? = some u) ∧ Got k us v ∧ RepR Z c r v := by
  cases k with
  | none =>
    simp only [rdR] at hr
    obtain ⟨v, hv, hr'⟩ := RepRs.get Z h off r hr
    exact ⟨[v], v, fun j u hu => by
      cases j with
      | zero => simp at hu; subst hu; simpa using hv
      | succ j => simp at hu, by simp [Got], hr'⟩
  | some n =>
    simp only [rdR] at hr
    split at hr
    · rename_i hle
      simp only [Option.some.injEq] at hr
      subst hr
      have hl := RepRs.length Z h
      refine ⟨(vs.drop off).take n, .agg ((vs.drop off).take n).toArray, fun j u hu => ?_, ⟨by simp; omega, rfl⟩, ?_⟩
      · rw [List.getElem?_take] at hu
        split at hu
        · rw [List.getElem?_drop] at hu; exact hu
        · simp at hu
      · refine RepR.mkAgg Z (fun u hu => h1 u (List.mem_of_mem_drop (List.mem_of_mem_take (by simpa using hu)))) ?_
        simpa using RepRs.take Z (RepRs.drop Z h off) n
    · simp at hr
theorem rdD_spec {I : IView} {cells : List PD} {vs : List Value} (h : RepVs Z I cells vs) (h1 : ∀ u ∈ vs, u.oneCell' = true) {off : Nat} {k : Option Nat} {r : PD} (hr : rdD cells off k = some r) :
    ∃ (us : List Value) (v : Value), (∀ j u, us[j]? = some u → vs[off + j]? = some u) ∧ Got k us v ∧ RepD Z I r v := by
  cases k with
  | none =>
    simp only [rdD] at hr
    obtain ⟨v, hv, hr'⟩ := RepVs.get Z h off r hr
    exact ⟨[v], v, fun j u hu => by
      cases j with
      | zero => simp at hu; subst hu; simpa using hv
      | succ j => simp at hu, by simp [Got], hr'⟩
  | some n =>
    simp only [rdD] at hr
    split at hr
    · rename_i hle
      simp only [Option.some.injEq] at hr
      subst hr
      have hl := RepVs.length Z h
      refine ⟨(vs.drop off).take n, .agg ((vs.drop off).take n).toArray, fun j u hu => ?_, ⟨by simp; omega, rfl⟩, ?_⟩
      · rw [List.getElem?_take] at hu
        split at hu
        · rw [List.getElem?_drop] at hu; exact hu
        · simp at hu
      · simp only [RepD]
        exact ⟨_, rfl, fun u hu => h1 u (List.mem_of_mem_drop (List.mem_of_mem_take (by simpa using hu))), by simpa using RepVs.take Z (RepVs.drop Z h off) n⟩
    · simp at hr

theorem cell_in {w : World} {b : Nat} {cs : Array Value} {T : TypeId} {fr : Nat × Nat} (h : w.heap[b]? = some (.cells cs T fr)) {j : Nat} {u : Value} (hu : cs[j]? = some u) : w.cell? ⟨b, j, none⟩ = some u := by
  simp [World.cell?, h, hu]

theorem opLoad (pr : Pre Z c id s a) {t : TypeId} {k : Option Nat} {x : Operand} {ix : IArg} (hk : nOf P t = some k) (hx : cArg Z x = some ix) (hop : o.op = .load t x) {C : Calls'} (he : evOp C id (.load k ix) s = some (.val v s')) :
    Done Z c id s s' v ((execOp a.eval o).run P c.w) := by
  simp only [evOp, Option.bind_eq_some_iff] at he
  obtain ⟨u, h1, h2⟩ := he
  have hu := RepR.arg Z pr.env hx h1
  split at h2
  · rename_i i off
    simp only [Option.bind_eq_some_iff] at h2
    obtain ⟨ob, h3, h4⟩ := h2
    split at h4
    · rename_i cells
      simp only [val, Option.bind_eq_some_iff, Option.some.injEq, OpOut.val.injEq] at h4
      obtain ⟨q, h5, rfl, rfl⟩ := h4
      obtain ⟨_, cs, T, fr, h6, h7, h8, _⟩ := pr.heap.obj i (.box cells) (by rw [pr.H]; exact h3)
      simp only [RepR] at hu
      obtain ⟨us, vv, h9, h10, h11⟩ := rdR_spec h7 (fun u hu => h8 u (List.mem_of_mem_take hu)) h5
      refine Done.same Z pr.heap pr.H (vv := vv) ?_ h11
      have hrun := run_loadVar' P hk c.w (c.g.blk i) off us (fun j u hu => cell_in h6 (by simpa using take_get (h9 j u hu))) vv h10
      simp [execOp, hop, Instr.loadAt, Instr.sureAddr, hu.2, hrun]
    · simp at h4
  · rename_i cells off
    simp only [Option.bind_eq_some_iff, Option.some.injEq, OpOut.val.injEq] at h2
    obtain ⟨d, h3, rfl, rfl⟩ := h2
    simp only [RepR] at hu
    obtain ⟨b, o', hv, vs, h4, h5, h6⟩ := hu
    obtain ⟨us, vv, h7, h8, h9⟩ := rdD_spec h4 h5 h3
    refine Done.same Z pr.heap pr.H (vv := vv) ?_ (by simp only [RepR]; exact h9)
    have hrun := run_loadVar' P hk c.w b (o' + off) us (fun j u hu => by
      have := (view_some (h6 _ _ (h7 j u hu))).2
      rwa [Nat.add_assoc]) vv h8
    simp [execOp, hop, Instr.loadAt, Instr.sureAddr, hv, hrun]
  · simp at h2

end
end Go.Proofs.YtkcbomohgbafoaaDoor
/- Part of the text. -/
set_option linter.unusedVariables false
set_option linter.unusedSimpArgs false
namespace Go.Proofs.YtkcbomohgbafoaaDoor
open Go

section
variable {P : Program} {Z : Seat} {c : Conf} {id : Id} {s s' : St} {a : Act} {o : Oper} {io : IOp} {v : RV} {C : Calls'}

theorem splice_eq {α : Type} : ∀ (cs : List α) (n : Nat) (vs : List α), n + vs.length ≤ cs.length → splice cs n vs = cs.take n ++ vs ++ cs.drop (n + vs.length)
  | cs, 0, [], _ => by cases cs <;> simp [splice]
  | [], 0, v :: vs, h => by simp at h
  | c :: cs, 0, v :: vs, h => by
    have ih := splice_eq cs 0 vs (by simp at h ⊢; omega)
    simp only [splice, ih]
    simp
  | [], n + 1, vs, h => by simp at h
  | c :: cs, n + 1, vs, h => by
    have ih := splice_eq cs n vs (by simp at h ⊢; omega)
    simp only [splice, ih]
    rw [show n + 1 + vs.length = (n + vs.length) + 1 by omega]
    simp

theorem splice_map {α β : Type} (f : α → β) : ∀ (cs : List α) (n : Nat) (vs : List α), (splice cs n vs).map f = splice (cs.map f) n (vs.map f)
  | cs, 0, [] => by cases cs <;> simp [splice]
  | [], 0, v :: vs => by simp [splice]
  | c :: cs, 0, v :: vs => by simp [splice, splice_map f cs 0 vs]
  | [], n + 1, vs => by simp [splice]
  | c :: cs, n + 1, vs => by simp [splice, splice_map f cs n vs]

theorem RepRs.splice {cells : List RV} {vs : List Value} (h : RepRs Z c cells vs) {ns : List RV} {us : List Value} (h' : RepRs Z c ns us) {off : Nat} (hle : off + ns.length ≤ cells.length) :
    RepRs Z c (splice cells off ns) (vs.take off ++ us ++ vs.drop (off + us.length)) := by
  rw [splice_eq _ _ _ hle]
  refine RepRs.append Z (RepRs.append Z (RepRs.take Z h off) h') ?_
  rw [RepRs.length Z h']
  exact RepRs.drop Z h _

/-- Cells stored into a row of which no cell is frozen. -/
theorem run_storeCells_fr (g o : Nat) (t : TypeId) (fr : Nat × Nat) : ∀ (vs : List Value) (i : Nat) (cur : Array Value) (w : World), (fr = (0, 0) ∨ cur.size ≤ fr.1) → w.heap[g]? = some (.cells cur t fr) → o + i + vs.length ≤ cur.size → (∀ v ∈ vs, v.oneCell' = true) →
    (storeCells ⟨g, o, none⟩ vs i).run P w = .ok () (w.setRow g (cur.toList.take (o + i) ++ vs ++ cur.toList.drop (o + i + vs.length)).toArray)
  | [], i, cur, w, hfr, hg, _, _ => by
    simp only [storeCells, List.append_nil, List.length_nil, Nat.add_zero, List.take_append_drop, Array.toArray_toList]
    rw [setRow_self w g cur t fr hg]
    rfl
  | v :: rest, i, cur, w, hfr, hg, hl, h1 => by
    have hi : o + i < cur.size := by simp at hl; omega
    have hcell : w.cell? ⟨g, o + i, none⟩ = some cur[o + i] := by simp [World.cell?, hg, hi]
    have hfro : w.frozen? ⟨g, o + i, none⟩ = false := by
      rcases hfr with rfl | hfr
      · simp [World.frozen?, hg]
      · simp [World.frozen?, hg]; intro; omega
    have hst : (store ((⟨g, o, none⟩ : Addr).add i) v).run P w = .ok () (w.setRow g (cur.setIfInBounds (o + i) v)) := by
      rw [add_none, run_store P w _ v _ (h1 v (by simp)), hcell]
      simp [hfro, setCell_eq_setRow w g (o + i) cur t fr v hg]
    have ih := run_storeCells_fr g o t fr rest (i + 1) (cur.setIfInBounds (o + i) v) (w.setRow g (cur.setIfInBounds (o + i) v)) (by simpa using hfr) (setRow_heap w g cur _ t _ hg) (by simp at hl ⊢; omega) (fun x hx => h1 x (by simp [hx]))
    simp only [storeCells, Sem.run_bind, hst, Result.andThen_ok, ih, setRow_setRow]
    congr 3
    have e := list_seg_step cur.toList (o + i) v rest (by simp at hl ⊢; omega)
    simpa [Array.toList_setIfInBounds, Nat.add_assoc] using e

theorem take_splice {α : Type} {l y : List α} {off k : Nat} (h : off + y.length ≤ k) (hk : k ≤ l.length) : (l.take off ++ y ++ l.drop (off + y.length)).take k = (l.take k).take off ++ y ++ (l.take k).drop (off + y.length) := by
  rw [List.take_take, List.drop_take, Nat.min_eq_left (by omega)]
  rw [List.take_append, List.take_of_length_le (by simp; omega)]
  congr 2
  simp
  omega

theorem opStore (pr : Pre Z c id s a) {t : TypeId} {n : Nat} {x y : Operand} {ix iy : IArg} (hn : szOf P t = some n) (hx : cArg Z x = some ix) (hy : cArg Z y = some iy) (hop : o.op = .store t x y)
    (he : evOp C id (.store n ix iy) s = some (.val v s')) : Done Z c id s s' v ((execOp a.eval o).run P c.w) := by
  simp only [evOp, Option.bind_eq_some_iff] at he
  obtain ⟨u, h1, h2⟩ := he
  have hu := RepR.arg Z pr.env hx h1
  split at h2
  · rename_i i off
    simp only [Option.bind_eq_some_iff] at h2
    obtain ⟨ob, h3, h4⟩ := h2
    split at h4
    · rename_i cells
      simp only [Option.bind_eq_some_iff] at h4
      obtain ⟨q, h5, h6⟩ := h4
      have hq := RepR.arg Z pr.env hy h5
      have key : (∀ l, q ≠ .tup l) → (if (cellsR q).length = n then (if off + n ≤ cells.length then some (OpOut.val (.tup []) (s.obj i (.box (YtkcbomohgbafoaaDoor.splice cells off (cellsR q))))) else none) else none) = some (.val v s') → Done Z c id s s' v ((execOp a.eval o).run P c.w) := by
        intro hnt h6
        split at h6
        · rename_i hlen
          split at h6
          · rename_i hle
            simp only [Option.some.injEq, OpOut.val.injEq] at h6
            obtain ⟨rfl, rfl⟩ := h6
            have hid : c.H i = some (.box cells) := by rw [pr.H]; exact h3
            obtain ⟨_, cs, T, fr, h7, h8, h9, h10, hfr0⟩ := pr.heap.obj i (.box cells) hid
            obtain ⟨h11, h12⟩ := RepR.cells Z hq hnt
            simp only [RepR] at hu
            have hl1 := RepRs.length Z h8
            have hl2 := RepRs.length Z h11
            have hl3 : (a.eval y).cells.toList.length = n := by omega
            have hrun := run_storeCells_fr (P := P) (c.g.blk i) off T fr (a.eval y).cells.toList 0 cs c.w hfr0 h7 (by simp at hl1 hl3 ⊢; omega) h12
            have hcs : cells.length ≤ cs.toList.length := by rw [List.length_take] at hl1; omega
            have hsz : (a.eval y).cells.size = n := by simpa using hl3
            have hR := setRow_heap c.w (c.g.blk i) cs ((cs.toList.take (off + 0) ++ (a.eval y).cells.toList ++ cs.toList.drop (off + 0 + (a.eval y).cells.toList.length)).toArray) T fr h7
            have hst := Step.inside Z pr.heap hid (o' := .box (YtkcbomohgbafoaaDoor.splice cells off (cellsR q))) (by simp) (by simp) h10 (w' := c.w.setRow (c.g.blk i) ((cs.toList.take (off + 0) ++ (a.eval y).cells.toList ++ cs.toList.drop (off + 0 + (a.eval y).cells.toList.length)).toArray))
              (size_setRow _ _ _) (fun b hb => setRow_other _ _ _ _ hb) rfl rfl rfl (fun ev => ⟨_, T, fr, hR, by
                have := RepRs.splice (RepRs.mono Z ev _ _ h8) (RepRs.mono Z ev _ _ h11) (off := off) (by omega)
                rw [← take_splice (by omega) hcs] at this
                have hsl : (YtkcbomohgbafoaaDoor.splice cells off (cellsR q)).length = cells.length := by rw [splice_eq _ _ _ (by omega)]; simp; omega
                rw [hsl]
                simpa using this, by
                intro u hu
                simp only [List.mem_append, Nat.add_zero] at hu
                rcases hu with (hu | hu) | hu
                · exact h9 u (List.mem_of_mem_take hu)
                · exact h12 u hu
                · exact h9 u (List.mem_of_mem_drop hu), h10, hfr0.imp (fun e => e) (fun h => by
                  have hb : off + (a.eval y).cells.size ≤ cs.size := by rw [hsz, ← Array.length_toList]; omega
                  simp only [List.size_toArray, List.length_append, List.length_take, List.length_drop, Array.length_toList, Nat.add_zero]
                  omega)⟩)
            rw [pr.H] at hst
            refine ⟨undef, _, _, .inr ⟨?_, rfl⟩, hst.1, hst.2, by simp only [RepR, RepRs, undef]; exact ⟨#[], rfl, rfl⟩, fun j hj => .inl hj, rfl, rfl, rfl, rfl, rfl⟩
            simp [execOp, hop, Instr.storeAt, Instr.sureAddr, hu.2, storeVar, run_size P hn, hsz, hrun]
          · simp at h6
        · simp at h6
      split at h6
      · simp at h6
      · rename_i hnt
        exact key (fun l e => hnt l e) h6
    · simp at h4
  · simp at h2

theorem opNil (pr : Pre Z c id s a) {x : Operand} {ix : IArg} (hx : cArg Z x = some ix) (hop : o.op = .nilCheck x) (he : evOp C id (.nilChk ix) s = some (.val v s')) : Done Z c id s s' v ((execOp a.eval o).run P c.w) := by
  simp only [evOp, Option.bind_eq_some_iff] at he
  obtain ⟨u, h1, h2⟩ := he
  have hu := RepR.arg Z pr.env hx h1
  have key : (a.eval x ≠ .pointer none) → (a.eval x ≠ .nilIface) → (a.eval x ≠ .nilFunc) → (∀ n f k, a.eval x ≠ .func (.method n) f k) → Done Z c id s s u ((execOp a.eval o).run P c.w) := by
    intro n1 n2 n3 n4
    refine Done.same Z pr.heap pr.H (vv := a.eval x) ?_ hu
    simp only [execOp, hop]
    rfl
  cases u with
  | data d =>
    cases d <;> simp only [RepR, RepD] at hu <;> simp only [Option.some.injEq, OpOut.val.injEq, reduceCtorEq] at h2
    case int => obtain ⟨rfl, rfl⟩ := h2; exact key (by simp [hu]) (by simp [hu]) (by simp [hu]) (by simp [hu])
    case bool => obtain ⟨rfl, rfl⟩ := h2; exact key (by simp [hu]) (by simp [hu]) (by simp [hu]) (by simp [hu])
    case str => obtain ⟨rfl, rfl⟩ := h2; exact key (by simp [hu]) (by simp [hu]) (by simp [hu]) (by simp [hu])
    case list => obtain ⟨rfl, rfl⟩ := h2; obtain ⟨_, _, _, hu, _⟩ := hu; exact key (by simp [hu]) (by simp [hu]) (by simp [hu]) (by simp [hu])
    case agg => obtain ⟨rfl, rfl⟩ := h2; obtain ⟨_, hu, _⟩ := hu; exact key (by simp [hu]) (by simp [hu]) (by simp [hu]) (by simp [hu])
    case iface => obtain ⟨rfl, rfl⟩ := h2; obtain ⟨_, hu, _⟩ := hu; exact key (by simp [hu]) (by simp [hu]) (by simp [hu]) (by simp [hu])
    case func => obtain ⟨rfl, rfl⟩ := h2; obtain ⟨_, _, hu, _⟩ := hu; exact key (by simp [hu]) (by simp [hu]) (by simp [hu]) (by simp [hu])
    case nilM => obtain ⟨rfl, rfl⟩ := h2; exact key (by simp [hu]) (by simp [hu]) (by simp [hu]) (by simp [hu])
  | full l => simp only [Option.some.injEq, OpOut.val.injEq] at h2; obtain ⟨rfl, rfl⟩ := h2; have hu' := hu; simp only [RepR] at hu'; obtain ⟨_, _, _, hu'⟩ := hu'; exact key (by simp [hu']) (by simp [hu']) (by simp [hu']) (by simp [hu'])
  | acc l t => simp only [Option.some.injEq, OpOut.val.injEq] at h2; obtain ⟨rfl, rfl⟩ := h2; have hu' := hu; simp only [RepR, RepD] at hu'; obtain ⟨⟨_, _, _, hu', _⟩, _⟩ := hu'; exact key (by simp [hu']) (by simp [hu']) (by simp [hu']) (by simp [hu'])
  | ptr i k => simp only [Option.some.injEq, OpOut.val.injEq] at h2; obtain ⟨rfl, rfl⟩ := h2; have hu' := hu; simp only [RepR] at hu'; exact key (by simp [hu'.2]) (by simp [hu'.2]) (by simp [hu'.2]) (by simp [hu'.2])
  | dref l k => simp only [Option.some.injEq, OpOut.val.injEq] at h2; obtain ⟨rfl, rfl⟩ := h2; have hu' := hu; simp only [RepR] at hu'; obtain ⟨_, _, hu', _⟩ := hu'; exact key (by simp [hu']) (by simp [hu']) (by simp [hu']) (by simp [hu'])
  | agg l => simp only [Option.some.injEq, OpOut.val.injEq] at h2; obtain ⟨rfl, rfl⟩ := h2; have hu' := hu; simp only [RepR] at hu'; obtain ⟨_, hu', _⟩ := hu'; exact key (by simp [hu']) (by simp [hu']) (by simp [hu']) (by simp [hu'])
  | tup l => simp only [Option.some.injEq, OpOut.val.injEq] at h2; obtain ⟨rfl, rfl⟩ := h2; have hu' := hu; simp only [RepR] at hu'; obtain ⟨_, hu', _⟩ := hu'; exact key (by simp [hu']) (by simp [hu']) (by simp [hu']) (by simp [hu'])
  | func f x y => simp only [Option.some.injEq, OpOut.val.injEq] at h2; obtain ⟨rfl, rfl⟩ := h2; have hu' := hu; simp only [RepR] at hu'; obtain ⟨_, _, hu', _⟩ := hu'; exact key (by simp [hu']) (by simp [hu']) (by simp [hu']) (by simp [hu'])
  | mapr i => simp only [Option.some.injEq, OpOut.val.injEq] at h2; obtain ⟨rfl, rfl⟩ := h2; have hu' := hu; simp only [RepR] at hu'; exact key (by simp [hu'.2]) (by simp [hu'.2]) (by simp [hu'.2]) (by simp [hu'.2])
  | nils => simp only [Option.some.injEq, OpOut.val.injEq] at h2; obtain ⟨rfl, rfl⟩ := h2; have hu' := hu; simp only [RepR] at hu'; obtain ⟨_, hu'⟩ := hu'; exact key (by simp [hu']) (by simp [hu']) (by simp [hu']) (by simp [hu'])
  | emp => simp only [Option.some.injEq, OpOut.val.injEq] at h2; obtain ⟨rfl, rfl⟩ := h2; have hu' := hu; simp only [RepR] at hu'; obtain ⟨_, _, hu'⟩ := hu'; exact key (by simp [hu']) (by simp [hu']) (by simp [hu']) (by simp [hu'])
  | sl i o n sz => simp only [Option.some.injEq, OpOut.val.injEq] at h2; obtain ⟨rfl, rfl⟩ := h2; have hu' := hu; simp only [RepR] at hu'; obtain ⟨_, _, hu', _⟩ := hu'; exact key (by simp [hu']) (by simp [hu']) (by simp [hu']) (by simp [hu'])
  | yld i => simp only [Option.some.injEq, OpOut.val.injEq] at h2; obtain ⟨rfl, rfl⟩ := h2; have hu' := hu; simp only [RepR] at hu'; exact key (by simp [hu'.2]) (by simp [hu'.2]) (by simp [hu'.2]) (by simp [hu'.2])

/-! ### arithmetic, comparison -/
theorem bytes_loop_eq (b : ByteArray) : ∀ (d i : Nat) (r : List UInt8), d = b.size - i → ByteArray.toList.loop b i r = r.reverse ++ b.data.toList.drop i := by
  intro d
  induction d with
  | zero =>
    intro i r hd
    unfold ByteArray.toList.loop
    have hn : ¬ i < b.size := by omega
    have h0 : b.data.toList.drop i = [] := by
      apply List.drop_eq_nil_of_le
      have : b.data.toList.length = b.size := by cases b; rfl
      omega
    rw [if_neg hn, h0, List.append_nil]
  | succ d ih =>
    intro i r hd
    unfold ByteArray.toList.loop
    have hlt : i < b.size := by omega
    rw [if_pos hlt, ih (i + 1) _ (by omega)]
    have hl : i < b.data.toList.length := by
      have : b.data.toList.length = b.size := by cases b; rfl
      omega
    rw [List.drop_eq_getElem_cons hl]
    have hg : b.get! i = b.data.toList[i] := by
      cases b with
      | mk d =>
        have hd : i < d.size := hlt
        show d[i]! = d.toList[i]
        rw [getElem!_pos d i hd]
        simp
    rw [hg]
    simp only [List.reverse_cons, List.append_assoc, List.singleton_append]
theorem bytes_toList (b : ByteArray) : b.toList = b.data.toList := by
  unfold ByteArray.toList
  rw [bytes_loop_eq b b.size 0 [] (by omega)]
  rfl
theorem toList_mk (l : List UInt8) : (⟨⟨l⟩⟩ : ByteArray).toList = l := bytes_toList _
theorem lessS_eq : ∀ (x y : List UInt8), Op.bytesLess x y = lessS x y
  | [], [] => rfl
  | [], _ :: _ => rfl
  | _ :: _, [] => rfl
  | a :: x, b :: y => by simp only [Op.bytesLess, lessS, lessS_eq x y]

theorem mk_append (x y : List UInt8) : (⟨⟨x⟩⟩ : ByteArray) ++ ⟨⟨y⟩⟩ = ⟨⟨x ++ y⟩⟩ := by
  apply ByteArray.ext
  simp [ByteArray.data_append]
theorem size_mk (x : List UInt8) : (⟨⟨x⟩⟩ : ByteArray).size = x.length := by simp [ByteArray.size]

theorem strOp_run {op : BinOp} {x y : List UInt8} {d : PD} (h : strOp op x y = some d) (w : World) (I : IView) : ∃ v, (Op.stringOp op ⟨⟨x⟩⟩ ⟨⟨y⟩⟩).run P w = .ok v w ∧ RepD Z I d v := by
  cases op <;> simp only [strOp] at h <;> try (simp at h; done)
  case add =>
    split at h
    · rename_i hle
      simp only [Option.some.injEq] at h; subst h
      refine ⟨.string (⟨⟨x⟩⟩ ++ ⟨⟨y⟩⟩), ?_, by simp only [RepD]; rw [mk_append]⟩
      simp only [Op.stringOp, size_mk]
      rw [if_neg (by simp only [IntKind.max, IntKind.signed, IntKind.bits]; omega)]
      rfl
    · simp at h
  all_goals
    simp only [Option.some.injEq] at h; subst h
    exact ⟨_, rfl, by simp only [RepD, toList_mk, lessS_eq]⟩

theorem arith_run {op : BinOp} {k : IntKind} {x y : Int} {d : PD} (h : arith op k x y = some d) (T : TypeId) (w : World) (I : IView) (hs : op ≠ .shl ∧ op ≠ .shr) : ∃ v, (binOp op T (.int k x) (.int k y)).run P w = .ok v w ∧ RepD Z I d v := by
  cases op <;> simp only [arith] at h <;> try (simp at h; done)
  case quo =>
    split at h
    · simp at h
    · rename_i h0
      simp only [Option.some.injEq] at h; subst h
      exact ⟨.int k (k.wrap (x.tdiv y)), by simp [binOp, Op.intDiv, h0], by simp only [RepD]⟩
  case rem =>
    split at h
    · simp at h
    · rename_i h0
      simp only [Option.some.injEq] at h; subst h
      exact ⟨.int k (x.tmod y), by simp [binOp, Op.intDiv, h0], by simp only [RepD]⟩
  all_goals
    simp only [Option.some.injEq] at h; subst h
    exact ⟨_, by simp only [binOp, ne_eq, not_true_eq_false, if_false, Op.intArith, Op.intBits, Op.intCmp, Sem.run_pure]; rfl, by simp only [RepD]⟩

end
end Go.Proofs.YtkcbomohgbafoaaDoor
/- Part of the text. -/
set_option linter.unusedVariables false
set_option linter.unusedSimpArgs false
namespace Go.Proofs.YtkcbomohgbafoaaDoor
open Go

section
variable {P : Program} {Z : Seat} {c : Conf} {id : Id} {s s' : St} {a : Act} {o : Oper} {io : IOp} {v : RV} {C : Calls'}

theorem run_if (q : Prop) [Decidable q] {X : Sem Unit} {w : World} (h : X.run P w = .ok () w) : (if q then pure () else X).run P w = .ok () w := by
  split
  · rfl
  · exact h

theorem guard_plain {op : BinOp} {t : TypeId} {x y : Operand} {u v : Value} (h : ∀ cs ds, ¬ (u = .agg cs ∧ v = .agg ds)) (h' : ¬ (u = .nilIface ∧ v = .nilIface)) (w : World) : (eqGuard op t x y u v).run P w = .ok () w := by
  unfold eqGuard
  refine run_if _ ?_
  split
  · exact absurd ⟨rfl, rfl⟩ h'
  · exact absurd ⟨rfl, rfl⟩ (h _ _)
  · rfl

theorem run_equal_of {t : TypeId} {u v : Value} {r : Bool} {w : World} (h : (Op.equalIn (9999 + 1) t u v).run P w = .ok r w) : (Op.equal t u v).run P w = .ok r w := h

theorem binD_run {op : BinOp} {x y : PD} {d : PD} (h : binD op x y = some d) (t : TypeId) (ox oy : Operand) {u v : Value} {I : IView} (hx : RepD Z I x u) (hy : RepD Z I y v) (w : World) :
    ∃ r, ((do eqGuard op t ox oy u v; binOp op t u v) : Sem Value).run P w = .ok r w ∧ RepD Z I d r := by
  unfold binD at h
  split at h
  · rename_i k p k' q
    simp only [RepD] at hx hy
    subst hx; subst hy
    have hg : (eqGuard op t ox oy (.int k p) (.int k' q)).run P w = .ok () w := guard_plain (by simp) (by simp) w
    simp only [Sem.run_bind, hg, Result.andThen_ok]
    split at h
    · split at h
      · rename_i h0
        simp only [Option.some.injEq] at h; subst h
        refine ⟨.int k (k.wrap (p * 2 ^ (min q.toNat k.bits))), ?_, by simp only [RepD]⟩
        simp only [binOp, Op.shift]
        rw [if_neg (by omega)]
        rfl
      · simp at h
    · split at h
      · rename_i h0
        simp only [Option.some.injEq] at h; subst h
        refine ⟨.int k (p.fdiv (2 ^ (min q.toNat k.bits))), ?_, by simp only [RepD]⟩
        simp only [binOp, Op.shift]
        rw [if_neg (by omega)]
        rfl
      · simp at h
    · rename_i h1 h2
      split at h
      · rename_i e
        subst e
        exact arith_run h t w I ⟨h1, h2⟩
      · simp at h
  · rename_i p q
    simp only [RepD] at hx hy
    subst hx; subst hy
    have hg : (eqGuard op t ox oy (.string ⟨⟨p⟩⟩) (.string ⟨⟨q⟩⟩)).run P w = .ok () w := guard_plain (by simp) (by simp) w
    obtain ⟨r, h1, h2⟩ := strOp_run (Z := Z) h w I
    refine ⟨r, ?_, h2⟩
    simp only [Sem.run_bind, hg, Result.andThen_ok]
    cases op <;> first | exact h1 | simp [strOp] at h
  · simp at h

theorem opBin (pr : Pre Z c id s a) {op : BinOp} {t yt : TypeId} {x y : Operand} {ix iy : IArg} (hx : cArg Z x = some ix) (hy : cArg Z y = some iy) (hop : o.op = .binOp op t x y yt) (he : evOp C id (.bin op ix iy) s = some (.val v s')) :
    Done Z c id s s' v ((execOp a.eval o).run P c.w) := by
  simp only [evOp, Option.bind_eq_some_iff] at he
  obtain ⟨u, h1, h2⟩ := he
  have hu := RepR.arg Z pr.env hx h1
  split at h2
  · rename_i p
    simp only [Option.bind_eq_some_iff] at h2
    obtain ⟨q, h3, h4⟩ := h2
    have hq := RepR.arg Z pr.env hy h3
    split at h4
    · rename_i q
      simp only [Option.bind_eq_some_iff, Option.some.injEq, OpOut.val.injEq] at h4
      obtain ⟨d, h5, rfl, rfl⟩ := h4
      simp only [RepR] at hu hq
      obtain ⟨r, h6, h7⟩ := binD_run (P := P) h5 t x y hu hq c.w
      refine Done.same Z pr.heap pr.H (vv := r) ?_ (by simp only [RepR]; exact h7)
      simp only [execOp, hop, Sem.run_bind] at h6 ⊢
      rw [h6]
      rfl
    · simp at h4
  · simp at h2

theorem run_eq_bool {t : TypeId} (ht : P.underlying t = some .bool) (ne : Bool) (p q : Bool) (w : World) : (binOp (if ne then .neq else .eql) t (.bool p) (.bool q)).run P w = .ok (.bool (if ne then !(p == q) else p == q)) w := by
  have h := run_equal_of (run_equalIn_bool' (P := P) w 9999 t p q ht)
  cases ne
  · simp only [Bool.false_eq_true, if_false, binOp, Sem.run_bind, h, Result.andThen_ok, Sem.run_pure]
  · simp only [if_true, binOp, Sem.run_bind, h, Result.andThen_ok, Sem.run_pure]

theorem opEqB (pr : Pre Z c id s a) {ne : Bool} {t yt : TypeId} {x y : Operand} {ix iy : IArg} (hx : cArg Z x = some ix) (hy : cArg Z y = some iy) (ht : P.underlying t = some .bool) (hop : o.op = .binOp (if ne then .neq else .eql) t x y yt)
    (he : evOp C id (.eqB ne ix iy) s = some (.val v s')) : Done Z c id s s' v ((execOp a.eval o).run P c.w) := by
  simp only [evOp, Option.bind_eq_some_iff] at he
  obtain ⟨u, h1, h2⟩ := he
  have hu := RepR.arg Z pr.env hx h1
  split at h2
  · rename_i p
    simp only [Option.bind_eq_some_iff] at h2
    obtain ⟨q, h3, h4⟩ := h2
    have hq := RepR.arg Z pr.env hy h3
    split at h4
    · rename_i q
      simp only [Option.some.injEq, OpOut.val.injEq] at h4
      obtain ⟨rfl, rfl⟩ := h4
      simp only [RepR, RepD] at hu hq
      refine Done.same Z pr.heap pr.H (vv := .bool (if ne then !(p == q) else p == q)) ?_ (by simp only [RepR, RepD])
      have hg : (eqGuard (if ne then .neq else .eql) t x y (.bool p) (.bool q)).run P c.w = .ok () c.w := guard_plain (by simp) (by simp) _
      have hr := run_eq_bool ht ne p q c.w
      simp only [execOp, hop, Sem.run_bind, hu, hq, hg, Result.andThen_ok, hr, Sem.run_pure]
    · simp at h4
  · simp at h2

theorem nilL_slice {c : Conf} {u : RV} {v : Value} (h : RepR Z c u v) {r : Bool} (hr : nilL u = some r) : ∃ p n k, v = .slice p n k ∧ p.isNone = r := by
  unfold nilL at hr
  split at hr
  · simp only [Option.some.injEq] at hr; subst hr; simp only [RepR] at h; obtain ⟨k, h⟩ := h; exact ⟨_, _, _, h, rfl⟩
  · simp only [Option.some.injEq] at hr; subst hr; simp only [RepR] at h; obtain ⟨b, k, h⟩ := h; exact ⟨_, _, _, h, rfl⟩
  · simp only [Option.some.injEq] at hr; subst hr; simp only [RepR, RepD] at h; obtain ⟨p, n, k, h, _, _, _, h5⟩ := h
    rcases h5 with h5 | ⟨b, o, sz, rfl, _⟩
    · simp at h5
    · exact ⟨_, _, _, h, rfl⟩
  · simp only [Option.some.injEq] at hr; subst hr; simp only [RepR, RepD] at h; obtain ⟨⟨p, n, k, h, _, _, _, h5⟩, _⟩ := h
    rcases h5 with h5 | ⟨b, o, sz, rfl, _⟩
    · simp at h5
    · exact ⟨_, _, _, h, rfl⟩
  · simp only [Option.some.injEq] at hr; subst hr; simp only [RepR, RepD] at h; obtain ⟨⟨p, n, k, h, _, _, _, h5⟩, _⟩ := h
    rcases h5 with h5 | ⟨b, o, sz, rfl, _⟩
    · simp at h5
    · exact ⟨_, _, _, h, rfl⟩
  · simp at hr

theorem opEqL (pr : Pre Z c id s a) {ne : Bool} {t yt e : TypeId} {x y : Operand} {ix : IArg} (hx : cArg Z x = some ix) (ht : P.underlying t = some (.slice e)) (hn : isNilS y = true)
    (hop : o.op = .binOp (if ne then .neq else .eql) t x y yt) (he : evOp C id (.eqL ne ix) s = some (.val v s')) : Done Z c id s s' v ((execOp a.eval o).run P c.w) := by
  simp only [evOp, Option.bind_eq_some_iff, Option.some.injEq, OpOut.val.injEq] at he
  obtain ⟨u, h1, r, h2, rfl, rfl⟩ := he
  have hu := RepR.arg Z pr.env hx h1
  obtain ⟨p, n, k, h3, h4⟩ := nilL_slice hu h2
  have hy : a.eval y = .slice none 0 0 := by
    unfold isNilS at hn
    split at hn
    · rfl
    · simp at hn
  have g1 : ∀ d, (Op.equalIn (d + 1) t (.slice p n k) (.slice none 0 0)).run P c.w = .ok r c.w := by
    intro d
    cases p with
    | none => simp only [Option.isNone_none] at h4; subst h4; simp only [Op.equalIn, Sem.run_bind, run_underlying ht, Result.andThen_ok, Sem.run_pure]; rfl
    | some q => simp only [Option.isNone_some] at h4; subst h4; simp only [Op.equalIn, Sem.run_bind, run_underlying ht, Result.andThen_ok, Sem.run_pure]
  have g4 := run_equal_of (g1 9999)
  refine Done.same Z pr.heap pr.H (vv := .bool (if ne then !r else r)) ?_ (by simp only [RepR, RepD])
  have hg : (eqGuard (if ne then .neq else .eql) t x y (.slice p n k) (.slice none 0 0)).run P c.w = .ok () c.w := guard_plain (by simp) (by simp) _
  cases ne
  · simp only [Bool.false_eq_true, if_false] at hop hg ⊢
    simp only [execOp, hop, Sem.run_bind, h3, hy, hg, Result.andThen_ok, binOp, g4, Sem.run_pure]
  · simp only [if_true] at hop hg ⊢
    simp only [execOp, hop, Sem.run_bind, h3, hy, hg, Result.andThen_ok, binOp, g4, Sem.run_pure]

theorem guard_nil {op : BinOp} {t : TypeId} {x y : Operand} (hn : isNil x = true ∨ isNil y = true) {u v : Value} (h : ∀ cs ds, ¬ (u = .agg cs ∧ v = .agg ds)) (w : World) : (eqGuard op t x y u v).run P w = .ok () w := by
  unfold eqGuard
  refine run_if _ ?_
  split
  · rcases hn with hn | hn
    · unfold isNil at hn
      split at hn
      · simp only [Bool.true_or, if_true]; rfl
      · simp at hn
    · unfold isNil at hn
      split at hn
      · simp only [Bool.or_true, if_true]; rfl
      · simp at hn
  · exact absurd ⟨rfl, rfl⟩ (h _ _)
  · rfl

theorem eqNil_run {t : TypeId} {ms : Array (String × TypeId)} (ht : P.underlying t = some (.interface ms)) {I : IView} {p q : PD} {u v : Value} (hu : RepD Z I p u) (hv : RepD Z I q v) {r : Bool} (h : eqNil p q = some r) (d : Nat) (w : World) :
    (Op.equalIn (d + 1) t u v).run P w = .ok r w ∧ (∀ cs ds, ¬ (u = .agg cs ∧ v = .agg ds)) ∧ ∀ op, (op = .eql ∨ op = .neq) → binOp op t u v = (do let e ← Op.equal t u v; pure (.bool (if op = .neq then !e else e))) := by
  unfold eqNil at h
  split at h
  · simp only [RepD] at hu hv
    subst hu; subst hv
    simp only [Option.some.injEq] at h; subst h
    exact ⟨by simp only [Op.equalIn, Sem.run_bind, run_underlying ht, Result.andThen_ok, Sem.run_pure], by simp, by rintro op (rfl | rfl) <;> simp [binOp]⟩
  · simp only [RepD] at hu hv
    obtain ⟨z, hv, _⟩ := hv
    subst hu; subst hv
    simp only [Option.some.injEq] at h; subst h
    exact ⟨by simp only [Op.equalIn, Sem.run_bind, run_underlying ht, Result.andThen_ok, Sem.run_pure], by simp, by rintro op (rfl | rfl) <;> simp [binOp]⟩
  · simp only [RepD] at hu hv
    obtain ⟨z, hu, _⟩ := hu
    subst hu; subst hv
    simp only [Option.some.injEq] at h; subst h
    exact ⟨by simp only [Op.equalIn, Sem.run_bind, run_underlying ht, Result.andThen_ok, Sem.run_pure], by simp, by rintro op (rfl | rfl) <;> simp [binOp]⟩
  · simp at h

theorem opEqN (pr : Pre Z c id s a) {ne : Bool} {t yt : TypeId} {ms : Array (String × TypeId)} {x y : Operand} {ix iy : IArg} (hx : cArg Z x = some ix) (hy : cArg Z y = some iy) (ht : P.underlying t = some (.interface ms)) (hn : isNil x = true ∨ isNil y = true)
    (hop : o.op = .binOp (if ne then .neq else .eql) t x y yt) (he : evOp C id (.eqN ne ix iy) s = some (.val v s')) : Done Z c id s s' v ((execOp a.eval o).run P c.w) := by
  simp only [evOp, Option.bind_eq_some_iff] at he
  obtain ⟨u, h1, h2⟩ := he
  have hu := RepR.arg Z pr.env hx h1
  split at h2
  · rename_i p
    simp only [Option.bind_eq_some_iff] at h2
    obtain ⟨q, h3, h4⟩ := h2
    have hq := RepR.arg Z pr.env hy h3
    split at h4
    · rename_i q
      simp only [Option.bind_eq_some_iff, Option.some.injEq, OpOut.val.injEq] at h4
      obtain ⟨r, h5, rfl, rfl⟩ := h4
      simp only [RepR] at hu hq
      obtain ⟨g1, g2, g3⟩ := eqNil_run (P := P) ht hu hq h5 9999 c.w
      have g4 := run_equal_of g1
      refine Done.same Z pr.heap pr.H (vv := .bool (if ne then !r else r)) ?_ (by simp only [RepR, RepD])
      cases ne
      · have hg := guard_nil (P := P) (op := .eql) (t := t) hn g2 c.w
        simp only [Bool.false_eq_true, if_false] at hop ⊢
        simp only [execOp, hop, Sem.run_bind, hg, Result.andThen_ok, g3 _ (.inl rfl), g4, Sem.run_pure, reduceCtorEq, if_false]
      · have hg := guard_nil (P := P) (op := .neq) (t := t) hn g2 c.w
        simp only [if_true] at hop ⊢
        simp only [execOp, hop, Sem.run_bind, hg, Result.andThen_ok, g3 _ (.inr rfl), g4, Sem.run_pure, if_true]
    · simp at h4
  · simp at h2

/-! ### structs of scalars -/
theorem run_part_scalar {t : TypeId} {k : EK} (hk : ekOf P t = some k) {cs : Array Value} {off : Nat} {v : Value} (hv : cs[off]? = some v) (w : World) : (part t cs off).run P w = .ok v w := by
  unfold ekOf at hk
  split at hk
  · rename_i h; simp [part, isAgg, run_underlying h, hv]
  · rename_i h; simp [part, isAgg, run_underlying h, hv]
  · rename_i h; simp [part, isAgg, run_underlying h, hv]
  · simp at hk

theorem run_eq_scalar {t : TypeId} {k : EK} (hk : ekOf P t = some k) {I : IView} {x y : PD} {u v : Value} (hx : RepD Z I x u) (hy : RepD Z I y v) {r : Bool} (hr : eqK k x y = some r) (d : Nat) (w : World) : (Op.equalIn (d + 1) t u v).run P w = .ok r w := by
  unfold ekOf at hk
  split at hk
  · rename_i ht
    simp only [Option.some.injEq] at hk; subst hk
    cases x <;> cases y <;> simp only [eqK, reduceCtorEq] at hr
    simp only [RepD] at hx hy; subst hx; subst hy
    simp only [Option.some.injEq] at hr; subst hr
    exact run_equalIn_bool' w d t _ _ ht
  · rename_i k ht
    simp only [Option.some.injEq] at hk; subst hk
    cases x <;> cases y <;> simp only [eqK, reduceCtorEq] at hr
    split at hr
    · rename_i e
      simp only [RepD] at hx hy; subst hx; subst hy; subst e
      simp only [Option.some.injEq] at hr; subst hr
      exact run_equalIn_int w d t _ _ _ _ ht
    · simp at hr
  · rename_i ht
    simp only [Option.some.injEq] at hk; subst hk
    cases x <;> cases y <;> simp only [eqK, reduceCtorEq] at hr
    rename_i p q
    simp only [RepD] at hx hy; subst hx; subst hy
    simp only [Option.some.injEq] at hr; subst hr
    have := run_equalIn_string (P := P) w d t ⟨⟨p⟩⟩ ⟨⟨q⟩⟩ ht
    rw [this, toList_mk, toList_mk]
  · simp at hk

theorem run_eqFields {I : IView} : ∀ {n : Nat} {fs : List Field} {ks : List EK}, eksOf P n fs = some ks → ∀ {xs ys : List PD} {us vs : Array Value}, RepVs Z I xs (us.toList.drop n) → RepVs Z I ys (vs.toList.drop n) → ∀ {r : Bool}, eqKs ks xs ys = some r → ∀ (d : Nat) (w : World), (Op.eqFields (d + 1) us vs fs).run P w = .ok r w
  | n, [], ks, hk, xs, ys, us, vs, hx, hy, r, hr, d, w => by
    simp only [eksOf, Option.some.injEq] at hk; subst hk
    unfold eqKs at hr
    split at hr <;> simp_all [Op.eqFields]
  | n, f :: fs, ks, hk, xs, ys, us, vs, hx, hy, r, hr, d, w => by
    simp only [eksOf] at hk
    split at hk
    · rename_i hc
      obtain ⟨ho, hn⟩ := hc
      simp only [Option.bind_eq_some_iff, Option.some.injEq] at hk
      obtain ⟨k, h1, l, h2, rfl⟩ := hk
      unfold eqKs at hr
      split at hr
      · simp_all
      · rename_i k' ks' p x' q y' e
        simp only [List.cons.injEq] at e
        obtain ⟨rfl, rfl⟩ := e
        simp only [Option.bind_eq_some_iff, Option.some.injEq] at hr
        obtain ⟨t, h3, u, h4, rfl⟩ := hr
        simp only [RepVs] at hx hy
        obtain ⟨v1, t1, e1, hx1, hx2⟩ := hx
        obtain ⟨v2, t2, e2, hy1, hy2⟩ := hy
        have g1 : us[n]? = some v1 := by
          have : (us.toList.drop n)[0]? = some v1 := by rw [e1]; rfl
          simpa using this
        have g2 : vs[n]? = some v2 := by
          have : (vs.toList.drop n)[0]? = some v2 := by rw [e2]; rfl
          simpa using this
        have d1 : us.toList.drop (n + 1) = t1 := by
          have : (us.toList.drop n).drop 1 = t1 := by rw [e1]; rfl
          simpa [Nat.add_comm] using this
        have d2 : vs.toList.drop (n + 1) = t2 := by
          have : (vs.toList.drop n).drop 1 = t2 := by rw [e2]; rfl
          simpa [Nat.add_comm] using this
        have hn' : f.name ≠ "_" := by simpa using hn
        have ih := run_eqFields h2 (us := us) (vs := vs) (by rw [d1]; exact hx2) (by rw [d2]; exact hy2) h4 d w
        rw [Op.eqFields]
        simp only [if_pos hn', Sem.run_bind, ho, run_part_scalar h1 g1, run_part_scalar h1 g2, Result.andThen_ok, run_eq_scalar h1 hx1 hy1 h3]
        cases t
        · simp
        · simpa using ih
      · simp at hr
    · simp at hk

theorem opEqA (pr : Pre Z c id s a) {ne : Bool} {t yt : TypeId} {fs : Array Field} {ks : List EK} {x y : Operand} {ix iy : IArg} (hx : cArg Z x = some ix) (hy : cArg Z y = some iy) (ht : P.underlying t = some (.struct fs)) (hs : P.stoodInHeld t = false) (hg : P.eqGuardType P.depth t = false)
    (hk : eksOf P 0 fs.toList = some ks) (hop : o.op = .binOp (if ne then .neq else .eql) t x y yt) (he : evOp C id (.eqA ne ks ix iy) s = some (.val v s')) : Done Z c id s s' v ((execOp a.eval o).run P c.w) := by
  simp only [evOp, Option.bind_eq_some_iff] at he
  obtain ⟨u, h1, h2⟩ := he
  have hu := RepR.arg Z pr.env hx h1
  split at h2
  · rename_i p
    simp only [Option.bind_eq_some_iff] at h2
    obtain ⟨q, h3, h4⟩ := h2
    have hq := RepR.arg Z pr.env hy h3
    split at h4
    · rename_i q
      simp only [Option.bind_eq_some_iff, Option.some.injEq, OpOut.val.injEq] at h4
      obtain ⟨r, h5, rfl, rfl⟩ := h4
      simp only [RepR, RepD] at hu hq
      obtain ⟨us, hu, _, hu2⟩ := hu
      obtain ⟨vs, hq, _, hq2⟩ := hq
      have hf : P.fieldsOf t = fs := by simp [Program.fieldsOf, ht]
      have hrun := run_equalIn_struct (P := P) c.w 9999 t us vs (by rw [hf]; exact ht) hs
      rw [hf, run_eqFields hk (us := us) (vs := vs) (by simpa using hu2) (by simpa using hq2) h5 9998 c.w] at hrun
      have hgr := run_eqGuard_agg (P := P) c.w (if ne then .neq else .eql) t x y us vs hg
      refine Done.same Z pr.heap pr.H (vv := .bool (if ne then !r else r)) ?_ (by simp only [RepR, RepD])
      cases ne
      · have hb := run_eql_struct (P := P) c.w t us vs
        simp only [Bool.false_eq_true, if_false] at hop hgr ⊢
        simp only [execOp, hop, Sem.run_bind, hu, hq, hgr, Result.andThen_ok, hb, hrun, Sem.run_pure]
      · have hb := run_neq_struct (P := P) c.w t us vs
        simp only [if_true] at hop hgr ⊢
        simp only [execOp, hop, Sem.run_bind, hu, hq, hgr, Result.andThen_ok, hb, hrun, Sem.run_pure]
    · simp at h4
  · simp at h2

end
end Go.Proofs.YtkcbomohgbafoaaDoor
/- Part of the text. -/
set_option linter.unusedVariables false
set_option linter.unusedSimpArgs false
namespace Go.Proofs.YtkcbomohgbafoaaDoor
open Go

section
variable {P : Program} {Z : Seat} {c : Conf} {id : Id} {s s' : St} {a : Act} {o : Oper} {io : IOp} {v : RV} {C : Calls'}

theorem unD_run {op : UnOp} {x d : PD} (h : unD op x = some d) {I : IView} {u : Value} (hx : RepD Z I x u) (hp : op ≠ .plus) (w : World) : ∃ r, (Op.unary op u).run P w = .ok r w ∧ RepD Z I d r := by
  unfold unD at h
  split at h
  · rename_i k n
    simp only [RepD] at hx; subst hx
    simp only [Option.some.injEq] at h; subst h
    exact ⟨.int k (k.wrap (0 - n)), by simp [Op.unary, Op.intArith], by simp only [RepD]⟩
  · rename_i b
    simp only [RepD] at hx; subst hx
    simp only [Option.some.injEq] at h; subst h
    exact ⟨.bool (!b), by simp [Op.unary], by simp only [RepD]⟩
  · exact absurd rfl hp
  · simp at h

theorem opUn (pr : Pre Z c id s a) {op : UnOp} {t : TypeId} {x : Operand} {ix : IArg} (hx : cArg Z x = some ix) (hp : op ≠ .plus) (hop : o.op = .unOp op t x) (he : evOp C id (.un op ix) s = some (.val v s')) : Done Z c id s s' v ((execOp a.eval o).run P c.w) := by
  simp only [evOp, Option.bind_eq_some_iff] at he
  obtain ⟨u, h1, h2⟩ := he
  have hu := RepR.arg Z pr.env hx h1
  split at h2
  · rename_i p
    simp only [Option.bind_eq_some_iff, Option.some.injEq, OpOut.val.injEq] at h2
    obtain ⟨d, h3, rfl, rfl⟩ := h2
    simp only [RepR] at hu
    obtain ⟨r, h4, h5⟩ := unD_run (P := P) h3 hu hp c.w
    refine Done.same Z pr.heap pr.H (vv := r) ?_ (by simp only [RepR]; exact h5)
    simp only [execOp, hop, Sem.run_bind, h4, Result.andThen_ok, Sem.run_pure]
  · simp at h2

theorem opCvInt (pr : Pre Z c id s a) {sT dT : TypeId} {k : IntKind} {x : Operand} {ix : IArg} {k0 : IntKind} (hs : P.underlying sT = some (.int k0)) (hd : P.underlying dT = some (.int k)) (hx : cArg Z x = some ix) (hop : o.op = .convert sT dT x) (he : evOp C id (.cvInt k ix) s = some (.val v s')) :
    Done Z c id s s' v ((execOp a.eval o).run P c.w) := by
  simp only [evOp, Option.bind_eq_some_iff] at he
  obtain ⟨u, h1, h2⟩ := he
  have hu := RepR.arg Z pr.env hx h1
  split at h2
  · rename_i k' n
    simp only [Option.some.injEq, OpOut.val.injEq] at h2
    obtain ⟨rfl, rfl⟩ := h2
    simp only [RepR, RepD] at hu
    refine Done.same Z pr.heap pr.H (vv := .int k (k.wrap n)) ?_ (by simp only [RepR, RepD])
    simp only [execOp, hop, hu, Sem.run_bind, convert, run_underlying hs, run_underlying hd, Result.andThen_ok, Conv.intToInt, Sem.run_pure]
  · simp at h2

theorem encode_ascii (n : Int) (h0 : 0 ≤ n) (h1 : n < 128) : Utf8.encode n = ⟨⟨[n.toNat.toUInt8]⟩⟩ := by
  have hv : Utf8.valid n = true := by
    unfold Utf8.valid
    simp
    omega
  unfold Utf8.encode
  simp only [hv, if_true]
  rw [if_pos (by omega)]

theorem opCvRune (pr : Pre Z c id s a) {sT dT : TypeId} {x : Operand} {ix : IArg} {k0 : IntKind} (hs : P.underlying sT = some (.int k0)) (hd : P.underlying dT = some .string) (hx : cArg Z x = some ix) (hop : o.op = .convert sT dT x) (he : evOp C id (.cvRune ix) s = some (.val v s')) :
    Done Z c id s s' v ((execOp a.eval o).run P c.w) := by
  simp only [evOp, Option.bind_eq_some_iff] at he
  obtain ⟨u, h1, h2⟩ := he
  have hu := RepR.arg Z pr.env hx h1
  split at h2
  · rename_i k' n
    split at h2
    · rename_i hb
      simp only [Option.some.injEq, OpOut.val.injEq] at h2
      obtain ⟨rfl, rfl⟩ := h2
      simp only [RepR, RepD] at hu
      refine Done.same Z pr.heap pr.H (vv := .string ⟨⟨[n.toNat.toUInt8]⟩⟩) ?_ (by simp only [RepR, RepD])
      simp only [execOp, hop, hu, Sem.run_bind, convert, run_underlying hs, run_underlying hd, Result.andThen_ok, Conv.intToString, encode_ascii n hb.1 hb.2, Sem.run_pure]
    · simp at h2
  · simp at h2

theorem opCvId (pr : Pre Z c id s a) {sT dT : TypeId} {x : Operand} {ix : IArg} (hs : P.underlying sT = some .string) (hd : P.underlying dT = some .string) (hx : cArg Z x = some ix) (hop : o.op = .convert sT dT x) (he : evOp C id (.cvId ix) s = some (.val v s')) :
    Done Z c id s s' v ((execOp a.eval o).run P c.w) := by
  simp only [evOp, Option.bind_eq_some_iff] at he
  obtain ⟨u, h1, h2⟩ := he
  have hu := RepR.arg Z pr.env hx h1
  split at h2
  · rename_i b
    simp only [Option.some.injEq, OpOut.val.injEq] at h2
    obtain ⟨rfl, rfl⟩ := h2
    simp only [RepR, RepD] at hu
    refine Done.same Z pr.heap pr.H (vv := .string ⟨⟨b⟩⟩) ?_ (by simp only [RepR, RepD])
    simp only [execOp, hop, hu, Sem.run_bind, convert, run_underlying hs, run_underlying hd, Result.andThen_ok, Sem.run_pure]
  · simp at h2

/-! ### bytes -/
theorem strD_bytes : ∀ (b : List UInt8), strD (bytesD b) = some b
  | [] => rfl
  | x :: r => by
    have ih := strD_bytes r
    show (strD (bytesD r)).bind (fun l => some (((x.toNat : Int).toNat.toUInt8) :: l)) = some (x :: r)
    rw [ih]
    simp

/-- A new block that nobody writes. -/
theorem Step.pub {c : Conf} (hH : HeapOK Z c) (w' : World) (n : Nat) (hsz : w'.heap.size = c.w.heap.size + 1) (hb : ∀ b, b < c.w.heap.size → w'.heap[b]? = c.w.heap[b]?) (h1 : w'.os = c.w.os) (h2 : w'.tape = c.w.tape) (h3 : w'.output = c.w.output) :
    let g' : Gh := { c.g with imm := fun b => if b < c.w.heap.size then c.g.imm b else n }
    Step c ⟨g', w', c.H⟩ ∧ HeapOK Z ⟨g', w', c.H⟩ :=
  Step.world Z hH (by omega) hb (fun b hlt => if_pos hlt) h1 h2 h3

theorem RepEls.of_cells {I : IView} {sz : Nat} : ∀ (ds : List PD) (vs : List Value), RepVs Z I ds vs → (∀ v ∈ vs, v.cells.size = sz) → ∀ (b o : Nat), (∀ j u, (vs.flatMap fun v => v.cells.toList)[j]? = some u → I b (o + j) = some u) → RepEls Z I sz ds b o
  | [], vs, h, hs, b, o, hI => by simp only [RepEls]
  | d :: r, vs, h, hs, b, o, hI => by
    simp only [RepVs] at h
    obtain ⟨v, t, rfl, h1, h2⟩ := h
    simp only [RepEls]
    have hv : v.cells.size = sz := hs v (by simp)
    refine ⟨⟨v, h1, hv, fun j u hu => hI j u ?_⟩, RepEls.of_cells r t h2 (fun x hx => hs x (by simp [hx])) b _ (fun j u hu => ?_)⟩
    · have hj : j < v.cells.toList.length := by
        rcases Nat.lt_or_ge j v.cells.size with h | h
        · simpa using h
        · rw [Array.getElem?_eq_none h] at hu; simp at hu
      simp only [List.flatMap_cons]
      rw [List.getElem?_append_left hj]
      simpa using hu
    · have := hI (sz + j) u (by
        simp only [List.flatMap_cons]
        rw [List.getElem?_append_right (by simp; omega)]
        simpa [hv] using hu)
      rwa [← Nat.add_assoc] at this

theorem flat_bytes : ∀ (b : List UInt8), (b.map fun x => Value.int .u8 (x.toNat : Int)).flatMap (fun v => v.cells.toList) = b.map fun x => Value.int .u8 (x.toNat : Int)
  | [] => rfl
  | x :: r => by
    have ih := flat_bytes r
    simp only [List.map_cons, List.flatMap_cons]
    rw [ih]
    rfl

theorem bytes_rep {I : IView} : ∀ (b : List UInt8), RepVs Z I (bytesD b) (b.map fun x => .int .u8 x.toNat)
  | [] => by simp [bytesD, RepVs]
  | x :: r => by
    have ih := bytes_rep (I := I) r
    simp only [bytesD, List.map_cons, RepVs, RepD] at ih ⊢
    exact ⟨_, _, rfl, rfl, ih⟩

theorem opCvBytes (pr : Pre Z c id s a) {sT dT e : TypeId} {x : Operand} {ix : IArg} (hs : P.underlying sT = some .string) (hd : P.underlying dT = some (.slice e)) (hu8 : P.underlying e = some (.int .u8)) (hx : cArg Z x = some ix) (hop : o.op = .convert sT dT x) (he : evOp C id (.cvBytes ix) s = some (.val v s')) :
    Done Z c id s s' v ((execOp a.eval o).run P c.w) := by
  simp only [evOp, Option.bind_eq_some_iff] at he
  obtain ⟨u, h1, h2⟩ := he
  have hu := RepR.arg Z pr.env hx h1
  split at h2
  · rename_i b
    split at h2
    · rename_i hle
      simp only [Option.some.injEq, OpOut.val.injEq] at h2
      obtain ⟨rfl, rfl⟩ := h2
      simp only [RepR, RepD] at hu
      have hrun := Lib.run_convert_string_bytes (P := P) c.w sT dT e ⟨⟨b⟩⟩ hs hd hu8
      have hst := Step.pub (Z := Z) pr.heap (Lib.bytesWorld c.w e ⟨⟨b⟩⟩) b.length (Lib.bytesWorld_size _ _ _) (fun k hk => Lib.bytesWorld_at_old _ _ _ k hk) rfl rfl rfl
      rw [pr.H] at hst
      have hx2 : (execOp a.eval o).run P c.w = .ok (.value (.slice (some ⟨c.w.heap.size, 0, none⟩) (⟨⟨b⟩⟩ : ByteArray).size (grownCap c.w (⟨⟨b⟩⟩ : ByteArray).size 0 e))) (Lib.bytesWorld c.w e ⟨⟨b⟩⟩) := by
        simp only [execOp, hop, hu, Sem.run_bind, hrun, Result.andThen_ok, Sem.run_pure]
      refine ⟨_, _, _, .inl hx2, hst.1, hst.2, ?_, fun j hj => .inl hj, rfl, rfl, rfl, rfl, rfl⟩
      simp only [RepR, RepD]
      refine ⟨_, _, _, rfl, by simp [bytesD, size_mk], by simpa [size_mk] using hle, by simp only [grownCap, Question.cut]; omega, ?_⟩
      right
      refine ⟨_, 0, 1, rfl, RepEls.of_cells (bytesD b) (b.map fun x => .int .u8 x.toNat) (bytes_rep b) ?_ _ _ ?_⟩
      · intro v hv
        simp only [List.mem_map] at hv
        obtain ⟨x, _, rfl⟩ := hv
        rfl
      · intro j u hu
        rw [flat_bytes b] at hu
        simp only [List.getElem?_map, Option.map_eq_some_iff] at hu
        obtain ⟨x, hx, rfl⟩ := hu
        have hj := (List.getElem?_eq_some_iff.1 hx).1
        simp only [Conf.I, view, Nat.zero_add]
        rw [if_pos (by simp; exact hj)]
        have := Lib.bytesWorld_cell c.w e ⟨⟨b⟩⟩ j (by simpa [size_mk] using hj)
        rw [this]
        simp [List.getD, hx]
    · simp at h2
  · simp at h2

/-- The bytes of a string in a row that may be written. -/
theorem opCvBytesM (pr : Pre Z c id s a) {sT dT e : TypeId} {x : Operand} {ix : IArg} (hs : P.underlying sT = some .string) (hd : P.underlying dT = some (.slice e)) (hu8 : P.underlying e = some (.int .u8)) (hx : cArg Z x = some ix) (hop : o.op = .convert sT dT x) (he : evOp C id (.cvBytesM ix) s = some (.val v s')) :
    Done Z c id s s' v ((execOp a.eval o).run P c.w) := by
  simp only [evOp, Option.bind_eq_some_iff] at he
  obtain ⟨u, h1, h2⟩ := he
  have hu := RepR.arg Z pr.env hx h1
  split at h2
  · rename_i b
    split at h2
    · rename_i hle
      simp only [Option.some.injEq, OpOut.val.injEq] at h2
      obtain ⟨rfl, rfl⟩ := h2
      simp only [RepR, RepD] at hu
      have hrun := Lib.run_convert_string_bytes (P := P) c.w sT dT e ⟨⟨b⟩⟩ hs hd hu8
      have hone : ∀ u ∈ (Lib.bytesCells c.w e ⟨⟨b⟩⟩).toList, u.oneCell' = true := by
        intro u hu
        simp only [Lib.bytesCells, Array.toList_append, List.mem_append, Array.toList_map, List.mem_map, Array.toList_replicate, List.mem_replicate] at hu
        rcases hu with ⟨y, _, rfl⟩ | ⟨_, rfl⟩ <;> rfl
      have hlen : b.length ≤ (Lib.bytesCells c.w e ⟨⟨b⟩⟩).toList.length := by simp [Lib.bytesCells]
      have ht : (Lib.bytesCells c.w e ⟨⟨b⟩⟩).toList.take b.length = b.map fun x => .int .u8 x.toNat := by
        simp only [Lib.bytesCells, Array.toList_append, Array.toList_map]
        exact List.take_left' (by simp)
      have hst0 := Step.new Z pr.heap pr.idD (c.g.lp id) (.cells (Lib.bytesCells c.w e ⟨⟨b⟩⟩) e ((Lib.bytesCells c.w e ⟨⟨b⟩⟩).size, (Lib.bytesCells c.w e ⟨⟨b⟩⟩).size + 1)) (.box ((bytesD b).map .data)) (by simp) (fun c' ev hbk him _ => ⟨_, _, _, hbk, by
          have hb := RepRs.of_data Z (c := c') (bytes_rep (Z := Z) (I := c'.I) b)
          have hl : ((bytesD b).map RV.data).length = b.length := by simp [bytesD]
          rw [hl, ht]
          exact hb, hone, him, .inr (Nat.le_refl _)⟩)
      have hst1 := Step.world Z hst0.2 (w' := Lib.bytesWorld c.w e ⟨⟨b⟩⟩) (imm' := fun b => if b = c.w.heap.size then 0 else c.g.imm b) (by simp [Lib.bytesWorld_size]) (fun k hk => by
          simp only at hk ⊢
          by_cases hk2 : k = c.w.heap.size
          · subst hk2
            rw [Lib.bytesWorld_at_new, heap_alloc_new']
          · have hk3 : k < c.w.heap.size := by simp at hk; omega
            rw [Lib.bytesWorld_at_old _ _ _ k hk3, heap_alloc_lt _ _ hk3]) (fun _ _ => rfl) rfl rfl rfl
      have hst := hst0.1.trans hst1.1
      rw [pr.H] at hst hst1
      have hx2 : (execOp a.eval o).run P c.w = .ok (.value (.slice (some ⟨c.w.heap.size, 0, none⟩) (⟨⟨b⟩⟩ : ByteArray).size (grownCap c.w (⟨⟨b⟩⟩ : ByteArray).size 0 e))) (Lib.bytesWorld c.w e ⟨⟨b⟩⟩) := by
        simp only [execOp, hop, hu, Sem.run_bind, hrun, Result.andThen_ok, Sem.run_pure]
      refine ⟨_, _, _, .inl hx2, hst, hst1.2, ?_, fun j hj => ?_, rfl, rfl, rfl, rfl, rfl⟩
      · simp only [RepR]
        exact ⟨.inr trivial, _, by simp [size_mk]; rfl, by simp only [grownCap, Question.cut, size_mk]; omega, hle⟩
      · rcases hj with hj | hj
        · exact .inl hj
        · exact .inr (hj ▸ List.prefix_refl _)
    · simp at h2
  · simp at h2

end
end Go.Proofs.YtkcbomohgbafoaaDoor
/- Part of the text. -/
set_option linter.unusedVariables false
set_option linter.unusedSimpArgs false
namespace Go.Proofs.YtkcbomohgbafoaaDoor
open Go

section
variable {P : Program} {Z : Seat} {c : Conf} {id : Id} {s s' : St} {a : Act} {o : Oper} {io : IOp} {v : RV} {C : Calls'}

theorem RepD.elems {u : RV} {x : Value} (hu : RepR Z c u x) {l : List PD} (h : elems u = some l) : RepD Z c.I (.list l) x := by
  unfold YtkcbomohgbafoaaDoor.elems at h
  split at h <;> simp only [Option.some.injEq, reduceCtorEq] at h <;> subst h
  · simpa only [RepR] using hu
  · simp only [RepR] at hu
    exact hu.1
  · simp only [RepR] at hu
    exact hu.1
  · exact RepD.of_toD Z (r := .nils) rfl hu
  · exact RepD.of_toD Z (r := .emp) rfl hu

theorem strD_spec {I : IView} : ∀ {l : List PD} {b : List UInt8}, strD l = some b → ∀ {sz b' o' : Nat}, RepEls Z I sz l b' o' → ∃ xs : List Int, xs.length = l.length ∧ b = xs.map (fun n => n.toNat.toUInt8) ∧ (l = [] ∨ sz = 1) ∧ ∀ j n, xs[j]? = some n → I b' (o' + j * sz) = some (.int .u8 n)
  | [], b, h, sz, b', o', hr => by
    simp only [strD, Option.some.injEq] at h; subst h
    exact ⟨[], rfl, rfl, .inl rfl, fun j n hn => by simp at hn⟩
  | d :: r, b, h, sz, b', o', hr => by
    unfold strD at h
    split at h
    · simp_all
    · rename_i n r' e
      simp only [List.cons.injEq] at e
      obtain ⟨rfl, rfl⟩ := e
      simp only [Option.bind_eq_some_iff, Option.some.injEq] at h
      obtain ⟨t, h1, rfl⟩ := h
      simp only [RepEls, RepD] at hr
      obtain ⟨⟨v, rfl, h3, h4⟩, h5⟩ := hr
      have hsz : sz = 1 := by simpa [Value.cells] using h3.symm
      obtain ⟨xs, g1, g2, g3, g4⟩ := strD_spec h1 h5
      refine ⟨n :: xs, by simp [g1], by rw [g2]; rfl, .inr hsz, fun j m hm => ?_⟩
      cases j with
      | zero =>
        simp at hm; subst hm
        have := h4 0 (.int .u8 n) (by simp [Value.cells])
        simpa using this
      | succ j =>
        simp at hm
        have := g4 j m hm
        rwa [show o' + sz + j * sz = o' + (j + 1) * sz by rw [Nat.add_mul]; omega] at this
    · simp at h

theorem strD_vals {I : IView} : ∀ {l : List PD} {b : List UInt8}, strD l = some b → ∀ {vs : List Value}, RepVs Z I l vs → ∃ xs : List Int, xs.length = l.length ∧ b = xs.map (fun n => n.toNat.toUInt8) ∧ ∀ (j : Nat) (n : Int), xs[j]? = some n → vs[j]? = some (Value.int .u8 n)
  | [], b, h, vs, hr => by
    simp only [strD, Option.some.injEq] at h; subst h
    exact ⟨[], rfl, rfl, fun j n hn => by simp at hn⟩
  | d :: r, b, h, vs, hr => by
    unfold strD at h
    split at h
    · simp_all
    · rename_i n r' e
      simp only [List.cons.injEq] at e
      obtain ⟨rfl, rfl⟩ := e
      simp only [Option.bind_eq_some_iff, Option.some.injEq] at h
      obtain ⟨t, h1, rfl⟩ := h
      simp only [RepVs, RepD] at hr
      obtain ⟨v, vt, rfl, rfl, h5⟩ := hr
      obtain ⟨xs, g1, g2, g4⟩ := strD_vals h1 h5
      refine ⟨n :: xs, by simp [g1], by rw [g2]; rfl, fun j m hm => ?_⟩
      cases j with
      | zero => simp at hm; subst hm; simp
      | succ j => simp at hm; simpa using g4 j m hm
    · simp at h

theorem opCvStr (pr : Pre Z c id s a) {sT dT e : TypeId} {x : Operand} {ix : IArg} (hs : P.underlying sT = some (.slice e)) (hd : P.underlying dT = some .string) (hu8 : P.underlying e = some (.int .u8)) (hx : cArg Z x = some ix) (hop : o.op = .convert sT dT x) (he : evOp C id (.cvStr ix) s = some (.val v s')) :
    Done Z c id s s' v ((execOp a.eval o).run P c.w) := by
  simp only [evOp, Option.bind_eq_some_iff] at he
  obtain ⟨u, h1, he⟩ := he
  split at he
  · rename_i i off n sz
    simp only [Option.bind_eq_some_iff] at he
    obtain ⟨ob, hob, he⟩ := he
    split at he
    · rename_i cells
      split at he
      · rename_i hcond
        obtain ⟨rfl, hlen⟩ := hcond
        simp only [Option.bind_eq_some_iff, Option.some.injEq, OpOut.val.injEq] at he
        obtain ⟨l, hal, b, h3, rfl, rfl⟩ := he
        have hu := RepR.arg Z pr.env hx h1
        simp only [RepR] at hu
        obtain ⟨_, cap, hv, hn, hm⟩ := hu
        obtain ⟨_, cs, T, fr, hblk, hcells, _⟩ := pr.heap.obj i (.box cells) (by rw [pr.H]; exact hob)
        have hR : RepVs Z c.I l (((cs.toList.take cells.length).drop off).take n) := RepVs.of_allData Z hal (RepRs.take Z (RepRs.drop Z hcells off) n)
        have hll : l.length = n := by
          have e1 := RepVs.length Z hR
          have e2 := RepRs.length Z hcells
          rw [e1, List.length_take, List.length_drop]
          omega
        obtain ⟨xs, g1, g2, g3⟩ := strD_vals h3 hR
        refine Done.same Z pr.heap pr.H (vv := .string (strOfNums xs)) ?_ (by simp only [RepR, RepD]; rw [g2]; rfl)
        have := run_convert_bytes_arg (P := P) c.w sT e hs hu8 (c.g.blk i) off n cap xs (by omega) (fun k hk => ?_) dT hd
        · simp only [execOp, hop, hv, Sem.run_bind, this, Result.andThen_ok, Sem.run_pure]
        · have hkx : k < xs.length := by omega
          have h4 := g3 k (xs.getD k 0) (by simp [List.getD, hkx])
          have h5 := take_get h4
          rw [List.getElem?_drop] at h5
          exact cell_in hblk (by simpa using take_get h5)
      · simp at he
    · simp at he
  simp only [Option.bind_eq_some_iff, Option.some.injEq, OpOut.val.injEq] at he
  obtain ⟨l, h2, b, h3, rfl, rfl⟩ := he
  have hu := RepD.elems (RepR.arg Z pr.env hx h1) h2
  simp only [RepD] at hu
  obtain ⟨ad, n, cp, hv, hn, hm, hcp, hl⟩ := hu
  rcases hl with hl | ⟨b', o', sz, rfl, hl⟩
  · subst hl
    simp only [strD, Option.some.injEq] at h3
    subst h3
    simp only [List.length_nil] at hn
    subst hn
    refine Done.same Z pr.heap pr.H (vv := .string ⟨⟨[]⟩⟩) ?_ (by simp only [RepR, RepD])
    cases ad with
    | none =>
      have := run_convert_bytes_nil (P := P) c.w sT e hs hu8 0 cp dT hd
      simp only [execOp, hop, hv, Sem.run_bind, this, Result.andThen_ok, Sem.run_pure]
      rfl
    | some ad =>
      have := run_convert_bytes_arg (P := P) c.w sT e hs hu8 ad.block ad.off 0 cp [] rfl (fun i hi => by omega) dT hd
      simp only [execOp, hop, hv, Sem.run_bind, convert, run_underlying hs, run_underlying hd, run_underlying hu8, Result.andThen_ok, Conv.bytesToString, loadCells, loadCellsFrom, Sem.run_pure]
      simp
      rfl
  · obtain ⟨xs, g1, g2, g3, g4⟩ := strD_spec (Z := Z) h3 hl
    refine Done.same Z pr.heap pr.H (vv := .string (strOfNums xs)) ?_ (by simp only [RepR, RepD]; rw [g2]; rfl)
    have := run_convert_bytes_arg (P := P) c.w sT e hs hu8 b' o' n cp xs (by omega) (fun i hi => ?_) dT hd
    · simp only [execOp, hop, hv, Sem.run_bind, this, Result.andThen_ok, Sem.run_pure]
    · have hsz : sz = 1 := by
        rcases g3 with g3 | g3
        · subst g3; simp at g1; subst g1; simp at hn; omega
        · exact g3
      subst hsz
      have hix : i < xs.length := by omega
      have := g4 i (xs.getD i 0) (by simp [List.getD, hix])
      simp only [Nat.mul_one] at this
      exact (view_some this).2

theorem opMkIface (pr : Pre Z c id s a) {t : TypeId} {k : Nat} {x : Operand} {ix : IArg} {d : TypeDesc} (ht : P.underlying t = some d) (hni : ∀ ms, d ≠ .interface ms) (hk : cTy Z t = some k) (hx : cArg Z x = some ix) (hop : o.op = .makeInterface t x) (he : evOp C id (.mkIface k ix) s = some (.val v s')) :
    Done Z c id s s' v ((execOp a.eval o).run P c.w) := by
  simp only [evOp, Option.bind_eq_some_iff, Option.some.injEq, OpOut.val.injEq] at he
  obtain ⟨u, h1, d', h2, rfl, rfl⟩ := he
  have hu := RepD.of_toD Z h2 (RepR.arg Z pr.env hx h1)
  have hty : Z.ty k = t := by
    unfold cTy at hk
    split at hk
    · simp only [Option.some.injEq] at hk; subst hk; assumption
    · simp at hk
  refine Done.same Z pr.heap pr.H (vv := .iface t (a.eval x)) ?_ (by simp only [RepR, RepD]; exact ⟨_, by rw [hty], hu⟩)
  simp only [execOp, hop, Sem.run_bind, Instr.makeInterface, run_underlying ht, Result.andThen_ok]
  cases d <;> first | rfl | exact absurd rfl (hni _)

theorem opMkFunc (pr : Pre Z c id s a) {f : FuncId} {k : Nat} {xs ys : Array Operand} {is js : List IArg} (hk : cFn Z f = some k) (hx : cArgs Z xs.toList = some is) (hy : cArgs Z ys.toList = some js) (hop : o.op = .makeFunc (.func f) xs ys) (he : evOp C id (.mkFunc k is js) s = some (.val v s')) :
    Done Z c id s s' v ((execOp a.eval o).run P c.w) := by
  simp only [evOp, Option.bind_eq_some_iff, Option.some.injEq, OpOut.val.injEq] at he
  obtain ⟨u, h1, w, h2, rfl, rfl⟩ := he
  have hu := RepRs.args Z pr.env hx h1
  have hw := RepRs.args Z pr.env hy h2
  have hfi : Z.fi k = f := by
    unfold cFn at hk
    split at hk
    · simp only [Option.some.injEq] at hk; subst hk; assumption
    · simp at hk
  refine Done.same Z pr.heap pr.H (vv := .func (.func f) (xs.map a.eval) (ys.map a.eval)) ?_ ?_
  · simp only [execOp, hop, Sem.run_bind, Instr.makeFunc, Sem.run_pure, Result.andThen_ok]
  · simp only [RepR]
    exact ⟨_, _, by rw [hfi], by simpa using hu, by simpa using hw⟩

theorem opMkMap (pr : Pre Z c id s a) {t : TypeId} (hop : o.op = .makeMap t none) : Done Z c id s (s.obj id (.mp [])) (.mapr id) ((execOp a.eval o).run P c.w) := by
  have hst := Step.new Z pr.heap pr.idD (c.g.lp id) (.map #[] 0) (.mp []) (by simp) (fun c' ev hb him _ => ⟨#[], 0, hb, fun k => by simp [look1, Instr.findNow], him⟩)
  rw [pr.H] at hst
  have hx2 : (execOp a.eval o).run P c.w = .ok (.value (.map (some c.w.heap.size))) (c.w.alloc (.map #[] 0)) := by
    simp [execOp, hop, Instr.makeMap, Option.map]
  refine ⟨_, _, _, .inl hx2, hst.1, hst.2, ?_, fun j hj => ?_, rfl, rfl, rfl, rfl, rfl⟩
  · simp only [RepR]
    exact ⟨.inr trivial, by simp⟩
  · rcases hj with hj | hj
    · exact .inl hj
    · exact .inr (hj ▸ List.prefix_refl _)

theorem opFaddr (pr : Pre Z c id s a) {t : TypeId} {fs : Array Field} {f : Nat} {fd : Field} {n : Nat} {x : Operand} {ix : IArg} (ht : P.underlying t = some (.struct fs)) (hf : fs[f]? = some fd) (hn : szOf P fd.type = some n) (h0 : n ≠ 0) (hx : cArg Z x = some ix) (hop : o.op = .fieldAddr t x f)
    (he : evOp C id (.faddr fd.offset ix) s = some (.val v s')) : Done Z c id s s' v ((execOp a.eval o).run P c.w) := by
  simp only [evOp, Option.bind_eq_some_iff] at he
  obtain ⟨u, h1, h2⟩ := he
  have hu := RepR.arg Z pr.env hx h1
  have hrun : ∀ b k, a.eval x = .pointer (some ⟨b, k, none⟩) → (execOp a.eval o).run P c.w = .ok (.value (.pointer (some ⟨b, k + fd.offset, none⟩))) c.w := by
    intro b k e
    simp only [execOp, hop, Sem.run_bind, Instr.fieldAt, run_underlying ht, Result.andThen_ok, hf, e, Instr.sureAddr, Sem.run_pure, fieldPlace, run_size P hn, Sem.run_ite, if_neg h0, add_none]
  split at h2
  · rename_i i k
    simp only [Option.some.injEq, OpOut.val.injEq] at h2
    obtain ⟨rfl, rfl⟩ := h2
    simp only [RepR] at hu
    refine Done.same Z pr.heap pr.H (hrun _ _ hu.2) (by simp only [RepR]; exact ⟨hu.1, trivial⟩)
  · rename_i cells k
    simp only [Option.some.injEq, OpOut.val.injEq] at h2
    obtain ⟨rfl, rfl⟩ := h2
    simp only [RepR] at hu
    obtain ⟨b, q, h3, h4⟩ := hu
    refine Done.same Z pr.heap pr.H (hrun _ _ h3) (by simp only [RepR]; exact ⟨b, q, by rw [Nat.add_assoc], h4⟩)
  · simp at h2

theorem run_part' {t : TypeId} {k : Option Nat} (hk : nOf P t = some k) {cs : Array Value} {off : Nat} {us : List Value} {v : Value} (h : ∀ j u, us[j]? = some u → cs.toList[off + j]? = some u) (hl : match k with | none => True | some n => off + n ≤ cs.size) (hg : Got k us v) (w : World) : (part t cs off).run P w = .ok v w := by
  cases k with
  | none =>
    simp only [Got] at hg
    have := h 0 v hg
    simp only [Nat.add_zero, Array.getElem?_toList] at this
    simp only [part, Sem.run_bind, run_agg P hk, Result.andThen_ok, Option.isSome_none, Bool.false_eq_true, if_false, Sem.run_ite, this, Sem.run_pure]
  | some n =>
    obtain ⟨g1, rfl⟩ := hg
    simp only [part, Sem.run_bind, run_agg P hk, Result.andThen_ok, Option.isSome_some, if_true, Sem.run_ite, run_size P (nOf_size P hk), Sem.run_pure]
    congr 2
    apply Array.ext'
    simp only [Array.toList_extract]
    apply List.ext_getElem?
    intro j
    simp only [List.extract_eq_take_drop, List.getElem?_take, List.getElem?_drop]
    by_cases hj : j < n
    · rw [if_pos (by omega)]
      have := h j (us[j]'(by omega)) (by simp [show j < us.length by omega])
      rw [this]
      simp [show j < us.length by omega]
    · rw [if_neg (by omega)]
      simp [show us.length ≤ j by omega]

end
end Go.Proofs.YtkcbomohgbafoaaDoor
/- Part of the text. -/
set_option linter.unusedVariables false
set_option linter.unusedSimpArgs false
namespace Go.Proofs.YtkcbomohgbafoaaDoor
open Go

section
variable {P : Program} {Z : Seat} {c : Conf} {id : Id} {s s' : St} {a : Act} {o : Oper} {io : IOp} {v : RV} {C : Calls'}

/-- A part of an aggregate. -/
theorem part_spec {t : TypeId} {k : Option Nat} (hk : nOf P t = some k) {u : RV} {x : Value} (hu : RepR Z c u x) {off : Nat} {r : RV}
    (h : (∃ l d, u = .data (.agg l) ∧ rdD l off k = some d ∧ r = .data d) ∨ (∃ l, u = .agg l ∧ rdR l off k = some r)) : ∃ cs vv, x = .agg cs ∧ (part t cs off).run P c.w = .ok vv c.w ∧ RepR Z c r vv := by
  rcases h with ⟨l, d, rfl, h1, rfl⟩ | ⟨l, rfl, h1⟩
  · simp only [RepR, RepD] at hu
    obtain ⟨cs, rfl, h2, h3⟩ := hu
    obtain ⟨us, vv, h4, h5, h6⟩ := rdD_spec h3 h2 h1
    refine ⟨cs, vv, rfl, run_part' hk h4 ?_ h5 c.w, by simp only [RepR]; exact h6⟩
    cases k with
    | none => trivial
    | some n =>
      simp only [rdD] at h1
      split at h1
      · rename_i hle
        have := RepVs.length Z h3
        simp only [Array.length_toList] at this
        simp only
        omega
      · simp at h1
  · simp only [RepR] at hu
    obtain ⟨cs, rfl, h2, h3⟩ := hu
    obtain ⟨us, vv, h4, h5, h6⟩ := rdR_spec h3 h2 h1
    refine ⟨cs, vv, rfl, run_part' hk h4 ?_ h5 c.w, h6⟩
    cases k with
    | none => trivial
    | some n =>
      simp only [rdR] at h1
      split at h1
      · rename_i hle
        have := RepRs.length Z h3
        simp only [Array.length_toList] at this
        simp only
        omega
      · simp at h1

theorem opField (pr : Pre Z c id s a) {t : TypeId} {fs : Array Field} {f : Nat} {fd : Field} {k : Option Nat} {x : Operand} {ix : IArg} (ht : P.underlying t = some (.struct fs)) (hf : fs[f]? = some fd) (hk : nOf P fd.type = some k) (hx : cArg Z x = some ix) (hop : o.op = .field t x f)
    (he : evOp C id (.fieldv fd.offset k ix) s = some (.val v s')) : Done Z c id s s' v ((execOp a.eval o).run P c.w) := by
  simp only [evOp, Option.bind_eq_some_iff] at he
  obtain ⟨u, h1, h2⟩ := he
  have hu := RepR.arg Z pr.env hx h1
  have key : s = s' → ((∃ l d, u = .data (.agg l) ∧ rdD l fd.offset k = some d ∧ v = .data d) ∨ (∃ l, u = .agg l ∧ rdR l fd.offset k = some v)) → Done Z c id s s' v ((execOp a.eval o).run P c.w) := by
    rintro rfl h
    obtain ⟨cs, vv, h3, h4, h5⟩ := part_spec hk hu h
    refine Done.same Z pr.heap pr.H ?_ h5
    simp only [execOp, hop, Sem.run_bind, Instr.field, run_underlying ht, Result.andThen_ok, hf, h3, asAgg, Sem.run_pure, h4]
  split at h2
  · rename_i l
    simp only [Option.bind_eq_some_iff, Option.some.injEq, OpOut.val.injEq] at h2
    obtain ⟨d, h3, rfl, rfl⟩ := h2
    exact key rfl (.inl ⟨l, d, rfl, h3, rfl⟩)
  · rename_i l
    simp only [val, Option.bind_eq_some_iff, Option.some.injEq, OpOut.val.injEq] at h2
    obtain ⟨d, h3, rfl, rfl⟩ := h2
    exact key rfl (.inr ⟨l, rfl, h3⟩)
  · simp at h2

theorem opIdxA (pr : Pre Z c id s a) {t e : TypeId} {len n : Nat} {k : Option Nat} {x y : Operand} {ix iy : IArg} (ht : P.underlying t = some (.array len e)) (hn : szOf P e = some n) (hk : nOf P e = some k) (hx : cArg Z x = some ix) (hy : cArg Z y = some iy) (hop : o.op = .index t x y)
    (he : evOp C id (.idxA len n k ix iy) s = some (.val v s')) : Done Z c id s s' v ((execOp a.eval o).run P c.w) := by
  simp only [evOp, Option.bind_eq_some_iff] at he
  obtain ⟨u, h1, h2⟩ := he
  have hu := RepR.arg Z pr.env hx h1
  have key : ∀ kk j, s = s' → 0 ≤ j ∧ j < (len : Int) → a.eval y = .int kk j → ((∃ l d, u = .data (.agg l) ∧ rdD l (j.toNat * n) k = some d ∧ v = .data d) ∨ (∃ l, u = .agg l ∧ rdR l (j.toNat * n) k = some v)) → Done Z c id s s' v ((execOp a.eval o).run P c.w) := by
    rintro kk j rfl hj hv h
    obtain ⟨cs, vv, h3, h4, h5⟩ := part_spec hk hu h
    refine Done.same Z pr.heap pr.H ?_ h5
    simp only [execOp, hop, Sem.run_bind, Instr.index, run_underlying ht, Result.andThen_ok, h3, hv, asIntOf, Sem.run_pure, Sem.run_ite, if_pos hj, run_size P hn, h4]
  split at h2
  · rename_i l
    simp only [Option.bind_eq_some_iff] at h2
    obtain ⟨w, h3, h4⟩ := h2
    have hw := RepR.arg Z pr.env hy h3
    split at h4
    · rename_i kk j
      split at h4
      · rename_i hj
        simp only [Option.bind_eq_some_iff, Option.some.injEq, OpOut.val.injEq] at h4
        obtain ⟨d, h5, rfl, rfl⟩ := h4
        simp only [RepR, RepD] at hw
        exact key kk j rfl hj hw (.inl ⟨l, d, rfl, h5, rfl⟩)
      · simp at h4
    · simp at h4
  · rename_i l
    simp only [Option.bind_eq_some_iff] at h2
    obtain ⟨w, h3, h4⟩ := h2
    have hw := RepR.arg Z pr.env hy h3
    split at h4
    · rename_i kk j
      split at h4
      · rename_i hj
        simp only [val, Option.bind_eq_some_iff, Option.some.injEq, OpOut.val.injEq] at h4
        obtain ⟨d, h5, rfl, rfl⟩ := h4
        simp only [RepR, RepD] at hw
        exact key kk j rfl hj hw (.inr ⟨l, rfl, h5⟩)
      · simp at h4
    · simp at h4
  · simp at h2

theorem opIdxS (pr : Pre Z c id s a) {t : TypeId} {x y : Operand} {ix iy : IArg} (ht : P.underlying t = some .string) (hx : cArg Z x = some ix) (hy : cArg Z y = some iy) (hop : o.op = .index t x y) (he : evOp C id (.idxS ix iy) s = some (.val v s')) :
    Done Z c id s s' v ((execOp a.eval o).run P c.w) := by
  simp only [evOp, Option.bind_eq_some_iff] at he
  obtain ⟨u, h1, h2⟩ := he
  have hu := RepR.arg Z pr.env hx h1
  split at h2
  · rename_i b
    simp only [Option.bind_eq_some_iff] at h2
    obtain ⟨w, h3, h4⟩ := h2
    have hw := RepR.arg Z pr.env hy h3
    split at h4
    · rename_i kk j
      split at h4
      · rename_i hj
        simp only [Option.bind_eq_some_iff, Option.some.injEq, OpOut.val.injEq] at h4
        obtain ⟨d, h5, rfl, rfl⟩ := h4
        simp only [RepR, RepD] at hu hw
        refine Done.same Z pr.heap pr.H (vv := .int .u8 d.toNat) ?_ (by simp only [RepR, RepD])
        have hlt := (List.getElem?_eq_some_iff.1 h5).1
        have hget : (⟨⟨b⟩⟩ : ByteArray)[j.toNat]? = some d := by
          have h6 : j.toNat < (⟨⟨b⟩⟩ : ByteArray).size := by simpa [size_mk] using hlt
          rw [getElem?_pos (⟨⟨b⟩⟩ : ByteArray) j.toNat h6]
          have := (List.getElem?_eq_some_iff.1 h5).2
          rw [← this]
          rfl
        simp only [execOp, hop, Sem.run_bind, Instr.index, run_underlying ht, Result.andThen_ok, hu, hw, asIntOf, Sem.run_pure, if_pos hj, hget]
      · simp at h4
    · simp at h4
  · simp at h2

theorem opIaddr (pr : Pre Z c id s a) {t e : TypeId} {n : Nat} {x y : Operand} {ix iy : IArg} (ht : P.underlying t = some (.slice e)) (hn : szOf P e = some n) (hx : cArg Z x = some ix) (hy : cArg Z y = some iy) (hop : o.op = .indexAddr t x y) (he : evOp C id (.iaddr n ix iy) s = some (.val v s')) :
    Done Z c id s s' v ((execOp a.eval o).run P c.w) := by
  simp only [evOp, Option.bind_eq_some_iff] at he
  obtain ⟨u, h1, he⟩ := he
  split at he
  · rename_i i0 off m sz'
    simp only [Option.bind_eq_some_iff] at he
    obtain ⟨w, h3, h4⟩ := he
    have hu := RepR.arg Z pr.env hx h1
    have hw := RepR.arg Z pr.env hy h3
    split at h4
    · rename_i kk j
      split at h4
      · rename_i hj
        obtain ⟨hj0, hjm, rfl⟩ := hj
        simp only [Option.some.injEq, OpOut.val.injEq] at h4
        obtain ⟨rfl, rfl⟩ := h4
        simp only [RepR, RepD] at hu hw
        obtain ⟨hD, cap, hv, _, _⟩ := hu
        refine Done.same Z pr.heap pr.H (vv := .pointer (some ⟨c.g.blk i0, off + j.toNat * sz', none⟩)) ?_ (by simp only [RepR]; exact ⟨hD, trivial⟩)
        have hjm : 0 ≤ j ∧ j < (m : Int) := ⟨hj0, by omega⟩
        simp only [execOp, hop, Sem.run_bind, Instr.indexAt, run_underlying ht, Result.andThen_ok, hv, hw, asIntOf, Sem.run_pure, Sem.run_ite, if_pos hjm, run_size P hn, add_none]
      · simp at h4
    · simp at h4
  simp only [Option.bind_eq_some_iff] at he
  obtain ⟨l, h2, w, h3, h4⟩ := he
  have hu := RepD.elems (RepR.arg Z pr.env hx h1) h2
  have hw := RepR.arg Z pr.env hy h3
  split at h4
  · rename_i kk j
    split at h4
    · rename_i hj
      simp only [Option.bind_eq_some_iff] at h4
      obtain ⟨d, h5, h6⟩ := h4
      split at h6
      · rename_i hsz
        simp only [Option.some.injEq, OpOut.val.injEq] at h6
        obtain ⟨rfl, rfl⟩ := h6
        simp only [RepR, RepD] at hu hw
        obtain ⟨ad, m, cp, hv, hm, _, _, hl⟩ := hu
        have hlt := (List.getElem?_eq_some_iff.1 h5).1
        rcases hl with hl | ⟨b, k, sz, rfl, hl⟩
        · subst hl; simp at hlt
        · obtain ⟨h7, h8⟩ := RepEls.get Z hl j.toNat d h5
          have hse : sz = n := by omega
          subst hse
          refine Done.same Z pr.heap pr.H (vv := .pointer (some ⟨b, k + j.toNat * sz, none⟩)) ?_ ?_
          · have hjm : 0 ≤ j ∧ j < (m : Int) := ⟨hj, by omega⟩
            simp only [execOp, hop, Sem.run_bind, Instr.indexAt, run_underlying ht, Result.andThen_ok, hv, hw, asIntOf, Sem.run_pure, Sem.run_ite, if_pos hjm, run_size P hn, add_none]
          · simp only [RepR]
            exact ⟨b, k + j.toNat * sz, rfl, h8⟩
      · simp at h6
    · simp at h4
  · simp at h4

theorem opAaddr (pr : Pre Z c id s a) {t e : TypeId} {len n : Nat} {x y : Operand} {ix iy : IArg} (ht : P.underlying t = some (.array len e)) (hn : szOf P e = some n) (hx : cArg Z x = some ix) (hy : cArg Z y = some iy) (hop : o.op = .indexAddr t x y) (he : evOp C id (.aaddr len n ix iy) s = some (.val v s')) :
    Done Z c id s s' v ((execOp a.eval o).run P c.w) := by
  simp only [evOp, Option.bind_eq_some_iff] at he
  obtain ⟨u, h1, w, h2, h3⟩ := he
  have hu := RepR.arg Z pr.env hx h1
  have hw := RepR.arg Z pr.env hy h2
  split at h3
  · rename_i kk j
    split at h3
    · rename_i hj
      simp only [RepR, RepD] at hw
      have hrun : ∀ b k, a.eval x = .pointer (some ⟨b, k, none⟩) → (execOp a.eval o).run P c.w = .ok (.value (.pointer (some ⟨b, k + j.toNat * n, none⟩))) c.w := by
        intro b k e
        simp only [execOp, hop, Sem.run_bind, Instr.indexAt, run_underlying ht, Result.andThen_ok, e, hw, asIntOf, Instr.sureAddr, Sem.run_pure, Sem.run_ite, if_pos hj, run_size P hn, add_none]
      split at h3
      · rename_i i k
        simp only [Option.some.injEq, OpOut.val.injEq] at h3
        obtain ⟨rfl, rfl⟩ := h3
        simp only [RepR] at hu
        exact Done.same Z pr.heap pr.H (hrun _ _ hu.2) (by simp only [RepR]; exact ⟨hu.1, trivial⟩)
      · rename_i cells k
        simp only [Option.some.injEq, OpOut.val.injEq] at h3
        obtain ⟨rfl, rfl⟩ := h3
        simp only [RepR] at hu
        obtain ⟨b, q, h4, h5⟩ := hu
        exact Done.same Z pr.heap pr.H (hrun _ _ h4) (by simp only [RepR]; exact ⟨b, q, by rw [Nat.add_assoc], h5⟩)
      · simp at h3
    · simp at h3
  · simp at h3

theorem opExtract (pr : Pre Z c id s a) {i : Nat} {x : Operand} {ix : IArg} (hx : cArg Z x = some ix) (hop : o.op = .extract x i) (he : evOp C id (.extract i ix) s = some (.val v s')) : Done Z c id s s' v ((execOp a.eval o).run P c.w) := by
  simp only [evOp, Option.bind_eq_some_iff] at he
  obtain ⟨u, h1, h2⟩ := he
  have hu := RepR.arg Z pr.env hx h1
  split at h2
  · rename_i l
    simp only [val, Option.bind_eq_some_iff, Option.some.injEq, OpOut.val.injEq] at h2
    obtain ⟨q, h3, rfl, rfl⟩ := h2
    simp only [RepR] at hu
    obtain ⟨vs, hv, h4⟩ := hu
    obtain ⟨x', h5, h6⟩ := RepRs.get Z h4 i q h3
    refine Done.same Z pr.heap pr.H (vv := x') ?_ h6
    have h7 : vs[i]? = some x' := by simpa using h5
    simp only [execOp, hop, Sem.run_bind, Instr.extract, hv, h7, Sem.run_pure, Result.andThen_ok]
  · simp at h2

theorem zero1_run {t : TypeId} {z : RV} (h : zero1 P t = some z) : ∃ vz, (∀ w, (zeroValue t).run P w = .ok vz w) ∧ (∀ c : Conf, RepR Z c z vz) := by
  unfold zero1 at h
  simp only [Option.bind_eq_some_iff] at h
  obtain ⟨vz, ⟨i, h1, h2⟩, h3⟩ := h
  refine ⟨vz, fun w => ?_, fun c => (RepR.const Z h3).1⟩
  simp [zeroValue, run_info P h1, h2]

theorem opTassert (pr : Pre Z c id s a) {xt t : TypeId} {k : Nat} {ok : Bool} {z : RV} {x : Operand} {ix : IArg} {d : TypeDesc} (ht : P.underlying t = some d) (hni : ∀ ms, d ≠ .interface ms) (hk : cTy Z t = some k) (hz : zero1 P t = some z) (hx : cArg Z x = some ix) (hop : o.op = .typeAssert x xt t ok)
    (he : evOp C id (.tassert k ok z ix) s = some (.val v s')) : Done Z c id s s' v ((execOp a.eval o).run P c.w) := by
  have hty : Z.ty k = t := by
    unfold cTy at hk
    split at hk
    · simp only [Option.some.injEq] at hk; subst hk; assumption
    · simp at hk
  simp only [evOp, Option.bind_eq_some_iff] at he
  obtain ⟨u, h1, h2⟩ := he
  have hu := RepR.arg Z pr.env hx h1
  split at h2
  · rename_i k' d'
    split at h2
    · rename_i e
      subst e
      simp only [Option.some.injEq, OpOut.val.injEq] at h2
      obtain ⟨rfl, rfl⟩ := h2
      simp only [RepR, RepD] at hu
      obtain ⟨y, hv, hy⟩ := hu
      rw [hty] at hv
      cases ok
      · refine Done.same Z pr.heap pr.H (vv := y) ?_ (by simp only [Bool.false_eq_true, if_false, RepR]; exact hy)
        simp only [execOp, hop, Sem.run_bind, Instr.typeAssert, run_underlying ht, Result.andThen_ok, hv]
        cases d <;> first | (simp only [if_true, Sem.run_pure, Result.andThen_ok, Bool.false_eq_true, if_false]; done) | exact absurd rfl (hni _)
      · refine Done.same Z pr.heap pr.H (vv := .tuple #[y, .bool true]) ?_ (by simp only [if_true, RepR, RepRs, RepD]; exact ⟨_, rfl, _, _, rfl, hy, _, _, rfl, rfl, rfl⟩)
        simp only [execOp, hop, Sem.run_bind, Instr.typeAssert, run_underlying ht, Result.andThen_ok, hv]
        cases d <;> first | (simp only [if_true, Sem.run_pure, Result.andThen_ok]; done) | exact absurd rfl (hni _)
    · simp at h2
  · split at h2
    · rename_i hok
      subst hok
      simp only [Option.some.injEq, OpOut.val.injEq] at h2
      obtain ⟨rfl, rfl⟩ := h2
      simp only [RepR, RepD] at hu
      obtain ⟨vz, g1, g2⟩ := zero1_run (Z := Z) hz
      have g5 := g2 c
      refine Done.same Z pr.heap pr.H (vv := .tuple #[vz, .bool false]) ?_ (by simp only [RepR, RepRs, RepD]; exact ⟨_, rfl, _, _, rfl, g5, _, _, rfl, rfl, rfl⟩)
      simp only [execOp, hop, Sem.run_bind, Instr.typeAssert, run_underlying ht, Result.andThen_ok, hu]
      cases d <;> first | (simp only [if_true, Sem.run_bind, g1, Sem.run_pure, Result.andThen_ok]; done) | exact absurd rfl (hni _)
    · simp at h2
  · simp at h2

end
end Go.Proofs.YtkcbomohgbafoaaDoor
