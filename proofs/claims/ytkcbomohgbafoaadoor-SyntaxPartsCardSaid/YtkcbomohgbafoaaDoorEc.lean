/- Part of the text. -/
import Derived.Test.YtkcbomohgbafoaaDoorEb
import Derived.Lib.Strings
import Derived.ArgAppend
import Derived.Laws.Build
import Derived.Laws.CopyRow
set_option linter.unusedVariables false
set_option linter.unusedSimpArgs false
namespace Go.Proofs.YtkcbomohgbafoaaDoor
open Go

section
variable {P : Program} {Z : Seat} {c : Conf} {id : Id} {s s' : St} {a : Act} {o : Oper} {io : IOp} {v : RV} {C : Calls'}

theorem run_builtin {b : Builtin} {xs : Array Operand} {ts : Array TypeId} (hop : o.op = .call { callee := .builtin b, args := xs, argTypes := ts }) :
    ∃ ks, ∀ w, (execOp a.eval o).run P w = (builtin b ts o.type ks (xs.map a.eval)).run P w := by
  refine ⟨xs.map fun | .const _ => true | _ => false, fun w => ?_⟩
  simp only [execOp, hop, resolve, Sem.run_bind, Sem.run_pure, Result.andThen_ok, invoke]
  rfl

theorem arr1 {x : Operand} {xs : Array Operand} (h : xs.toList = [x]) : xs.map a.eval = #[a.eval x] := by
  have : xs = #[x] := by apply Array.ext'; simpa using h
  subst this
  simp
theorem arr2 {x y : Operand} {xs : Array Operand} (h : xs.toList = [x, y]) : xs.map a.eval = #[a.eval x, a.eval y] := by
  have : xs = #[x, y] := by apply Array.ext'; simpa using h
  subst this
  simp

theorem run_len {t : TypeId} {ts : Array TypeId} {x : Operand} {xs : Array Operand} (hxs : xs.toList = [x]) (hop : o.op = .call { callee := .builtin .len, args := xs, argTypes := ts }) {n : Nat} {w : World}
    (hr : (Builtin.len_ ts o.type #[a.eval x]).run P w = .ok (goInt n) w) : (execOp a.eval o).run P w = .ok (.value (goInt n)) w := by
  obtain ⟨ks, h⟩ := run_builtin (P := P) (a := a) hop
  rw [h, arr1 hxs]
  simp only [builtin, Sem.run_bind, hr, Result.andThen_ok, Sem.run_pure]

theorem opLenS (pr : Pre Z c id s a) {t : TypeId} {ts : Array TypeId} {x : Operand} {xs : Array Operand} {ix : IArg} (hxs : xs.toList = [x]) (hts : ts[0]? = some t) (hx : cArg Z x = some ix) (hd : P.underlying t = some .string)
    (hop : o.op = .call { callee := .builtin .len, args := xs, argTypes := ts }) (he : evOp C id (.len true ix) s = some (.val v s')) : Done Z c id s s' v ((execOp a.eval o).run P c.w) := by
  simp only [evOp, Option.bind_eq_some_iff] at he
  obtain ⟨u, h1, h2⟩ := he
  have hu := RepR.arg Z pr.env hx h1
  split at h2
  · rename_i b _
    simp only [Option.some.injEq, OpOut.val.injEq] at h2
    obtain ⟨rfl, rfl⟩ := h2
    simp only [RepR, RepD] at hu
    refine Done.same Z pr.heap pr.H (run_len (t := t) (n := b.length) hxs hop ?_) (by simp only [goI, RepR, RepD, goInt])
    simp only [Builtin.len_, hts, List.getElem?_toArray, List.getElem?_cons_zero, Sem.run_bind, run_underlying hd, Result.andThen_ok, hu, Sem.run_pure, size_mk]
  · simp_all
  · simp_all
  · simp_all

theorem opLenL (pr : Pre Z c id s a) {t e : TypeId} {ts : Array TypeId} {x : Operand} {xs : Array Operand} {ix : IArg} (hxs : xs.toList = [x]) (hts : ts[0]? = some t) (hx : cArg Z x = some ix) (hd : P.underlying t = some (.slice e))
    (hop : o.op = .call { callee := .builtin .len, args := xs, argTypes := ts }) (he : evOp C id (.len false ix) s = some (.val v s')) : Done Z c id s s' v ((execOp a.eval o).run P c.w) := by
  simp only [evOp, Option.bind_eq_some_iff] at he
  obtain ⟨u, h1, h2⟩ := he
  have hu := RepR.arg Z pr.env hx h1
  split at h2
  · simp_all
  · rename_i i0 off n sz _
    simp only [Option.some.injEq, OpOut.val.injEq] at h2
    obtain ⟨rfl, rfl⟩ := h2
    simp only [RepR] at hu
    obtain ⟨_, cap, hv, _⟩ := hu
    refine Done.same Z pr.heap pr.H (run_len (t := t) (n := n) hxs hop ?_) (by simp only [goI, RepR, RepD, goInt])
    simp only [Builtin.len_, hts, List.getElem?_toArray, List.getElem?_cons_zero, Sem.run_bind, run_underlying hd, Result.andThen_ok, hv, Sem.run_pure]
  · simp only [Option.bind_eq_some_iff, Option.some.injEq, OpOut.val.injEq] at h2
    obtain ⟨l, h3, rfl, rfl⟩ := h2
    have hu := RepD.elems hu h3
    simp only [RepD] at hu
    obtain ⟨ad, n, cp, hv, hn, _⟩ := hu
    refine Done.same Z pr.heap pr.H (run_len (t := t) (n := l.length) hxs hop ?_) (by simp only [goI, RepR, RepD, goInt])
    simp only [Builtin.len_, hts, List.getElem?_toArray, List.getElem?_cons_zero, Sem.run_bind, run_underlying hd, Result.andThen_ok, hv, Sem.run_pure, hn]
  · simp_all

theorem opMinmax (pr : Pre Z c id s a) {mx : Bool} {ts : Array TypeId} {xs : Array Operand} {is : List IArg} (hx : cArgs Z xs.toList = some is) (hop : o.op = .call { callee := .builtin (if mx then .max else .min), args := xs, argTypes := ts })
    (he : evOp C id (.minmax mx is) s = some (.val v s')) : Done Z c id s s' v ((execOp a.eval o).run P c.w) := by
  simp only [evOp, Option.bind_eq_some_iff, Option.some.injEq, OpOut.val.injEq] at he
  obtain ⟨vs, h1, d, h2, rfl, rfl⟩ := he
  have hu := RepRs.args Z pr.env hx h1
  obtain ⟨ks, h⟩ := run_builtin (P := P) (a := a) hop
  unfold minmaxI at h2
  split at h2
  · rename_i k p k' q
    split at h2
    · rename_i e
      subst e
      simp only [Option.some.injEq] at h2
      subst h2
      simp only [RepRs, RepR, RepD] at hu
      obtain ⟨v1, t1, e1, rfl, v2, t2, e2, rfl, rfl⟩ := hu
      subst e2
      have hm : xs.map a.eval = #[.int k p, .int k q] := by apply Array.ext'; simpa using e1
      refine Done.same Z pr.heap pr.H (vv := .int k (if mx then max p q else min p q)) ?_ (by simp only [RepR, RepD])
      rw [h, hm]
      cases mx
      · simp only [Bool.false_eq_true, if_false, builtin, Builtin.min_, List.foldlM_cons, List.foldlM_nil, Builtin.min2, Sem.run_bind, Sem.run_pure, Result.andThen_ok]
        congr 3
        omega
      · simp only [if_true, builtin, Builtin.max_, List.foldlM_cons, List.foldlM_nil, Builtin.max2, Sem.run_bind, Sem.run_pure, Result.andThen_ok]
        congr 3
        omega
    · simp at h2
  · simp at h2

/-! ### slices of strings and of slices -/
theorem bound_run {env : Nat → Option RV} (he : EnvOK Z c env a.tmps) {x : Operand} {ix : IArg} (hx : cArg Z x = some ix) {d n y : Nat} (h : bound env d (some ix) = some n) (hy : n ≤ y) (code : BoundsCode) (w : World) : (Instr.sliceBound (a.eval x) y code).run P w = .ok n w := by
  simp only [bound, Option.bind_eq_some_iff] at h
  obtain ⟨u, h1, h2⟩ := h
  have hu := RepR.arg Z he hx h1
  split at h2
  · rename_i k m
    split at h2
    · rename_i h0
      simp only [Option.some.injEq] at h2
      subst h2
      simp only [RepR, RepD] at hu
      have hb : 0 ≤ m ∧ m ≤ (y : Int) := ⟨h0, by omega⟩
      simp only [Instr.sliceBound, hu, asIntOf, Sem.run_bind, Sem.run_pure, Result.andThen_ok, Sem.run_ite, if_pos hb]
    · simp at h2
  · simp at h2

/-- What the bounds come to: 'lo', 'hi', 'max' as the evaluator has them. -/
def Bnds (env : Nat → Option RV) (lo hi mx : Option IArg) (l : Nat) (h m : Option Nat) : Prop :=
  bound env 0 lo = some l ∧ (match hi with | none => h = none | some x => ∃ n, bound env 0 (some x) = some n ∧ h = some n) ∧ (match mx with | none => m = none | some x => ∃ n, bound env 0 (some x) = some n ∧ m = some n)

theorem bounds_run {env : Nat → Option RV} (he : EnvOK Z c env a.tmps) {lo hi mx : Option Operand} {ilo ihi imx : Option IArg} (hlo : cOpt Z lo = some ilo) (hhi : cOpt Z hi = some ihi) (hmx : cOpt Z mx = some imx) {l : Nat} {h m : Option Nat} (hb : Bnds env ilo ihi imx l h m)
    {isS : Bool} {len cap : Nat} (hlc : len ≤ cap) (h1 : l ≤ h.getD len) (h2 : h.getD len ≤ m.getD cap) (h3 : m.getD cap ≤ cap) (h4 : m.isSome = true → h.isSome = true) (w : World) :
    (Instr.sliceBounds isS len cap (lo.map a.eval) (hi.map a.eval) (mx.map a.eval)).run P w = .ok (l, h.getD len, m.getD cap) w := by
  obtain ⟨b1, b2, b3⟩ := hb
  have g1 : ∀ x, lo = some x → ∀ code, (Instr.sliceBound (a.eval x) (h.getD len) code).run P w = .ok l w := by
    rintro x rfl code
    simp only [cOpt, Option.map_eq_some_iff] at hlo
    obtain ⟨ix, hx, rfl⟩ := hlo
    exact bound_run he hx b1 h1 _ w
  have g0 : lo = none → l = 0 := by
    rintro rfl
    simp only [cOpt, Option.some.injEq] at hlo; subst hlo
    simpa only [bound, Option.some.injEq, eq_comm] using b1
  have g2 : ∀ x, hi = some x → ∀ code, (Instr.sliceBound (a.eval x) (m.getD cap) code).run P w = .ok (h.getD len) w := by
    rintro x rfl code
    simp only [cOpt, Option.map_eq_some_iff] at hhi
    obtain ⟨ix, hx, rfl⟩ := hhi
    obtain ⟨n, hn, rfl⟩ := b2
    exact bound_run he hx hn (by simpa using h2) _ w
  have g4 : hi = none → h = none := by
    rintro rfl
    simp only [cOpt, Option.some.injEq] at hhi; subst hhi
    exact b2
  have g3 : ∀ x, mx = some x → ∀ code, (Instr.sliceBound (a.eval x) cap code).run P w = .ok (m.getD cap) w := by
    rintro x rfl code
    simp only [cOpt, Option.map_eq_some_iff] at hmx
    obtain ⟨ix, hx, rfl⟩ := hmx
    obtain ⟨n, hn, rfl⟩ := b3
    exact bound_run he hx hn (by simpa using h3) _ w
  have g5 : mx = none → m = none := by
    rintro rfl
    simp only [cOpt, Option.some.injEq] at hmx; subst hmx
    exact b3
  have g6 : ∀ x, mx = some x → m.isSome = true := by
    rintro x rfl
    simp only [cOpt, Option.map_eq_some_iff] at hmx
    obtain ⟨ix, hx, rfl⟩ := hmx
    obtain ⟨n, hn, rfl⟩ := b3
    rfl
  unfold Instr.sliceBounds
  cases mx with
  | none =>
    have e5 := g5 rfl
    subst e5
    cases hi with
    | none =>
      have e4 := g4 rfl
      subst e4
      cases lo with
      | none => have e0 := g0 rfl; subst e0; simp only [Option.map_none, Sem.run_bind, Sem.run_pure, Result.andThen_ok, Option.getD_none]
      | some x => simp only [Option.map_none, Option.map_some, Sem.run_bind, Sem.run_pure, Result.andThen_ok, Option.getD_none] at g1 ⊢; rw [g1 x rfl]; rfl
    | some y =>
      cases lo with
      | none => have e0 := g0 rfl; subst e0; simp only [Option.map_none, Option.map_some, Sem.run_bind, Sem.run_pure, Result.andThen_ok, Option.getD_none] at g2 ⊢; rw [g2 y rfl]; rfl
      | some x => simp only [Option.map_none, Option.map_some, Sem.run_bind, Sem.run_pure, Result.andThen_ok, Option.getD_none] at g1 g2 ⊢; rw [g2 y rfl]; simp only [Result.andThen_ok]; rw [g1 x rfl]; rfl
  | some z =>
    cases hi with
    | none =>
      have e4 := g4 rfl
      subst e4
      have := h4 (g6 z rfl)
      simp at this
    | some y =>
      cases lo with
      | none => have e0 := g0 rfl; subst e0; simp only [Option.map_none, Option.map_some, Sem.run_bind, Sem.run_pure, Result.andThen_ok]; rw [g3 z rfl]; simp only [Result.andThen_ok]; rw [g2 y rfl]; rfl
      | some x => simp only [Option.map_none, Option.map_some, Sem.run_bind, Sem.run_pure, Result.andThen_ok]; rw [g3 z rfl]; simp only [Result.andThen_ok]; rw [g2 y rfl]; simp only [Result.andThen_ok]; rw [g1 x rfl]; rfl

end
end Go.Proofs.YtkcbomohgbafoaaDoor
/- Part of the text. -/
set_option linter.unusedVariables false
set_option linter.unusedSimpArgs false
namespace Go.Proofs.YtkcbomohgbafoaaDoor
open Go

section
variable {P : Program} {Z : Seat} {c : Conf} {id : Id} {s s' : St} {a : Act} {o : Oper} {io : IOp} {v : RV} {C : Calls'}

theorem extract_mk' (b : List UInt8) (l h : Nat) : (⟨⟨b⟩⟩ : ByteArray).extract l h = ⟨⟨(b.take h).drop l⟩⟩ := by
  have : ((⟨⟨b⟩⟩ : ByteArray).extract l h).data.toList = (b.take h).drop l := by
    rw [Lib.extract_data]
    exact (List.drop_take ..).symm
  generalize (⟨⟨b⟩⟩ : ByteArray).extract l h = x at this
  obtain ⟨⟨y⟩⟩ := x
  simp only at this
  rw [this]

theorem RepD.sub {I : IView} {l : List PD} {ad : Option Addr} {n : Nat} (hn : n = l.length) (hm : n ≤ 9223372036854775807) (hl : l = [] ∨ ∃ b o sz, ad = some ⟨b, o, none⟩ ∧ RepEls Z I sz l b o) {lo h m sz0 : Nat} (h1 : lo ≤ h) (h2 : h ≤ n) (h3 : h ≤ m) (hsz : ∀ b o sz, ad = some ⟨b, o, none⟩ → RepEls Z I sz l b o → l = [] ∨ sz = sz0) :
    RepD Z I (.list ((l.take h).drop lo)) (.slice (if m = lo then ad else ad.map (·.add (lo * sz0))) (h - lo) (m - lo)) := by
  simp only [RepD]
  refine ⟨_, _, _, rfl, by simp; omega, by omega, by omega, ?_⟩
  by_cases he : (l.take h).drop lo = []
  · exact .inl he
  · right
    have hlt : lo < h := by
      rcases Nat.lt_or_ge lo h with hh | hh
      · exact hh
      · exact absurd (List.drop_eq_nil_of_le (by simp; omega)) he
    have hne : l ≠ [] := by
      rintro rfl
      simp at he
    rcases hl with hl | ⟨b, o, sz, rfl, hl⟩
    · exact absurd hl hne
    · have hs : sz = sz0 := (hsz b o sz rfl hl).resolve_left hne
      subst hs
      refine ⟨b, o + lo * sz, sz, ?_, ?_⟩
      · rw [if_neg (by omega)]
        simp only [Option.map_some, add_none]
      · exact RepEls.drop Z (RepEls.take Z hl h) lo (by simp; omega)

theorem RepEls.uniq {I : IView} {l : List PD} {b o b' o' sz sz' : Nat} (h : RepEls Z I sz l b o) (h' : RepEls Z I sz' l b' o') : l = [] ∨ sz = sz' := by
  cases l with
  | nil => exact .inl rfl
  | cons d r =>
    right
    have e1 := RepEls.size Z h d (by simp)
    have e2 := RepEls.size Z h' d (by simp)
    omega

theorem bnds_of {env : Nat → Option RV} {ilo ihi imx : Option IArg} {l : Nat} {h m : Option Nat} (h1 : bound env 0 ilo = some l) (h2 : boundO env ihi = some h) (h3 : boundO env imx = some m) : Bnds env ilo ihi imx l h m := by
  refine ⟨h1, ?_, ?_⟩
  · cases ihi with
    | none => simpa only [boundO, Option.some.injEq, eq_comm] using h2
    | some x => simp only [boundO, Option.bind_eq_some_iff, Option.some.injEq] at h2; obtain ⟨n, h4, h5⟩ := h2; exact ⟨n, h4, h5.symm⟩
  · cases imx with
    | none => simpa only [boundO, Option.some.injEq, eq_comm] using h3
    | some x => simp only [boundO, Option.bind_eq_some_iff, Option.some.injEq] at h3; obtain ⟨n, h4, h5⟩ := h3; exact ⟨n, h4, h5.symm⟩

theorem mx_none {env : Nat → Option RV} {mx : Option Operand} {imx : Option IArg} (hmx : cOpt Z mx = some imx) (h : boundO env imx = some none) : mx = none := by
  cases mx with
  | none => rfl
  | some y =>
    simp only [cOpt, Option.map_eq_some_iff] at hmx
    obtain ⟨iy, _, rfl⟩ := hmx
    simp [boundO, Option.bind_eq_some_iff] at h

theorem opSubS (pr : Pre Z c id s a) {t : TypeId} {x : Operand} {lo hi mx : Option Operand} {ix : IArg} {ilo ihi imx : Option IArg} {n0 : Nat} (ht : P.underlying t = some .string) (hx : cArg Z x = some ix) (hlo : cOpt Z lo = some ilo) (hhi : cOpt Z hi = some ihi) (hmx : cOpt Z mx = some imx)
    (hop : o.op = .slice t x lo hi mx) (he : evOp C id (.sub true n0 ix ilo ihi imx) s = some (.val v s')) : Done Z c id s s' v ((execOp a.eval o).run P c.w) := by
  simp only [evOp, Option.bind_eq_some_iff] at he
  obtain ⟨u, h1, l, h2, h, h3, m, h4, h5⟩ := he
  have hu := RepR.arg Z pr.env hx h1
  have hB := bnds_of h2 h3 h4
  split at h5 <;> try (simp_all; done)
  rename_i _ h _ _
  simp only [val, Option.bind_eq_some_iff, Option.some.injEq, OpOut.val.injEq] at h5
  obtain ⟨q, h5, rfl, rfl⟩ := h5
  have hmx0 := mx_none hmx h4
  subst hmx0
  unfold subS at h5
  split at h5
  · rename_i b
    split at h5
    · rename_i hle
      simp only [Option.some.injEq] at h5
      subst h5
      simp only [RepR, RepD] at hu
      have hbr := bounds_run (P := P) pr.env hlo hhi hmx hB (isS := false) (len := b.length) (cap := b.length) (Nat.le_refl _) hle.1 hle.2 (Nat.le_refl _) (by simp) c.w
      refine Done.same Z pr.heap pr.H ?_ (by simp only [RepR, RepD]; rfl)
      simp only [Option.map_none] at hbr
      simp only [execOp, hop, Sem.run_bind, Instr.sliceAt, run_underlying ht, Result.andThen_ok, Instr.slice, hu, size_mk, Option.map_none, Option.isSome_none, Bool.false_eq_true, if_false, Sem.run_ite, hbr, Sem.run_pure, extract_mk']
    · simp at h5
  · simp at h5

theorem all_size {sz : Nat} {l : List PD} (h : l.all (sizeD sz) = true) : ∀ d ∈ l, (cellsD d).length = sz := by
  intro d hd
  have := List.all_eq_true.1 h d hd
  simpa [sizeD] using this

theorem opSubL (pr : Pre Z c id s a) {t e : TypeId} {n0 : Nat} {x : Operand} {lo hi mx : Option Operand} {ix : IArg} {ilo ihi imx : Option IArg} (ht : P.underlying t = some (.slice e)) (hn0 : szOf P e = some n0) (hx : cArg Z x = some ix) (hlo : cOpt Z lo = some ilo) (hhi : cOpt Z hi = some ihi) (hmx : cOpt Z mx = some imx)
    (hop : o.op = .slice t x lo hi mx) (he : evOp C id (.sub false n0 ix ilo ihi imx) s = some (.val v s')) : Done Z c id s s' v ((execOp a.eval o).run P c.w) := by
  simp only [evOp, Option.bind_eq_some_iff] at he
  obtain ⟨u, h1, l, h2, h, h3, m, h4, h5⟩ := he
  have hu := RepR.arg Z pr.env hx h1
  have hB := bnds_of h2 h3 h4
  have key : ∀ (ls : List PD), elems u = some ls → ls.all (sizeD n0) = true → l ≤ h.getD ls.length → h.getD ls.length ≤ ls.length → (m.isSome = true → h.isSome = true) → (∀ k, m = some k → k = h.getD ls.length) →
      ∃ ad cp, (execOp a.eval o).run P c.w = .ok (.value (.slice ad (h.getD ls.length - l) cp)) c.w ∧ RepD Z c.I (.list ((ls.take (h.getD ls.length)).drop l)) (.slice ad (h.getD ls.length - l) cp) ∧ (m.isSome = true → cp = h.getD ls.length - l) := by
    intro ls hls hall hle1 hle2 hms hmk
    have hu' := RepD.elems hu hls
    simp only [RepD] at hu'
    obtain ⟨ad, n, cp, hv, hn, hmx', hcp, hl⟩ := hu'
    have hle3 : h.getD ls.length ≤ m.getD cp := by
      cases m with
      | none => simp only [Option.getD_none]; omega
      | some k => simp only [Option.getD_some]; rw [hmk k rfl]; exact Nat.le_refl _
    have hle4 : m.getD cp ≤ cp := by
      cases m with
      | none => exact Nat.le_refl _
      | some k => simp only [Option.getD_some]; rw [hmk k rfl]; omega
    have hbr := bounds_run (P := P) pr.env hlo hhi hmx hB (isS := true) (len := n) (cap := cp) hcp (by rw [hn]; exact hle1) (by rw [hn]; exact hle3) hle4 hms c.w
    rw [hn] at hbr
    refine ⟨if m.getD cp = l then ad else ad.map (·.add (l * n0)), m.getD cp - l, ?_, ?_, ?_⟩
    · simp only [execOp, hop, Sem.run_bind, Instr.sliceAt, run_underlying ht, Result.andThen_ok, Instr.slice, hv, hn, hbr, run_size P hn0, Sem.run_pure]
    · refine RepD.sub hn hmx' hl hle1 (by omega) hle3 (fun b o sz e1 e2 => ?_)
      cases ls with
      | nil => exact .inl rfl
      | cons d r =>
        right
        have := RepEls.size Z e2 d (by simp)
        have := all_size hall d (by simp)
        omega
    · intro hm
      cases m with
      | none => simp at hm
      | some k => simp only [Option.getD_some]; rw [hmk k rfl]
  split at h5
  · simp_all
  · rename_i h _ _
    simp only [val, subL, Option.bind_eq_some_iff, Option.some.injEq, OpOut.val.injEq] at h5
    obtain ⟨q, ⟨ls, h6, h7⟩, rfl, rfl⟩ := h5
    split at h7
    · rename_i hall
      split at h7
      · rename_i hle
        simp only [Option.some.injEq] at h7
        subst h7
        obtain ⟨ad, cp, g1, g2, _⟩ := key ls h6 hall hle.1 hle.2 (by simp) (by simp)
        exact Done.same Z pr.heap pr.H g1 (by simp only [RepR]; exact g2)
      · simp at h7
    · simp at h7
  · rename_i h m _ _
    simp only [val, subL, Option.bind_eq_some_iff, Option.some.injEq, OpOut.val.injEq] at h5
    obtain ⟨q, ⟨ls, h6, h7⟩, rfl, rfl⟩ := h5
    split at h7
    · rename_i hall
      split at h7
      · rename_i hle
        simp only [Option.some.injEq] at h7
        subst h7
        obtain ⟨ad, cp, g1, g2, g3⟩ := key ls h6 hall hle.1 hle.2.1 (by simp) (by rintro k hk; simp only [Option.some.injEq] at hk; subst hk; exact hle.2.2)
        have g4 := g3 rfl
        subst g4
        exact Done.same Z pr.heap pr.H g1 (by simp only [RepR]; exact ⟨g2, _, _, rfl⟩)
      · simp at h7
    · simp at h7
  · simp at h5

end
end Go.Proofs.YtkcbomohgbafoaaDoor
/- Part of the text. -/
set_option linter.unusedVariables false
set_option linter.unusedSimpArgs false
namespace Go.Proofs.YtkcbomohgbafoaaDoor
open Go

section
variable {P : Program} {Z : Seat} {c : Conf} {id : Id} {s s' : St} {a : Act} {o : Oper} {io : IOp} {v : RV} {C : Calls'}

/-! ### aggregates built of their parts -/
theorem foldl_sets : ∀ (vs : List Value) (off k : Nat) (cs : Array Value), off + k + vs.length ≤ cs.size →
    ((vs.zipIdx k).foldl (fun cs (c, j) => cs.setIfInBounds (off + j) c) cs).toList = splice cs.toList (off + k) vs
  | [], off, k, cs, h => by simp only [List.zipIdx_nil, List.foldl_nil]; rw [splice_eq _ _ _ (by simpa using h)]; simp
  | v :: r, off, k, cs, h => by
    simp only [List.zipIdx_cons, List.foldl_cons]
    rw [foldl_sets r off (k + 1) (cs.setIfInBounds (off + k) v) (by simp at h ⊢; omega)]
    rw [splice_eq _ _ _ (by simp at h ⊢; omega), splice_eq _ _ _ (by simp at h ⊢; omega)]
    have e := list_seg_step cs.toList (off + k) v r (by simp at h ⊢; omega)
    simpa [Array.toList_setIfInBounds, Nat.add_assoc] using e

theorem fill_spec (he : EnvOK Z c s.env a.tmps) (pl : Nat → Option (Nat × Nat)) : ∀ (parts : List (Nat × Operand)) (is : List (Nat × Nat × IArg)), cBuild Z pl parts = some is → ∀ (zs : List RV) (cs : Array Value) (rs : List RV), RepRs Z c zs cs.toList → (∀ u ∈ cs.toList, u.oneCell' = true) → fillR s.env zs is = some rs →
    ∃ cs', Instr.fill pl cs (parts.map fun (i, x) => (i, a.eval x)) = some cs' ∧ RepRs Z c rs cs'.toList ∧ (∀ u ∈ cs'.toList, u.oneCell' = true) ∧ cs'.size = cs.size
  | [], is, hc, zs, cs, rs, hz, h1, hf => by
    simp only [cBuild, Option.some.injEq] at hc; subst hc
    simp only [fillR, Option.some.injEq] at hf; subst hf
    exact ⟨cs, rfl, hz, h1, rfl⟩
  | (i, x) :: r, is, hc, zs, cs, rs, hz, h1, hf => by
    simp only [cBuild, Option.bind_eq_some_iff, Option.some.injEq] at hc
    obtain ⟨⟨off, n⟩, hp, ix, hx, l, hl, rfl⟩ := hc
    simp only [fillR, Option.bind_eq_some_iff] at hf
    obtain ⟨u, h2, h3⟩ := hf
    have hu := RepR.arg Z he hx h2
    have key : (∀ l, u ≠ .tup l) → (if (cellsR u).length = n then (if off + n ≤ zs.length then fillR s.env (splice zs off (cellsR u)) l else none) else none) = some rs → ∃ cs', Instr.fill pl cs (((i, x) :: r).map fun (i, x) => (i, a.eval x)) = some cs' ∧ RepRs Z c rs cs'.toList ∧ (∀ u ∈ cs'.toList, u.oneCell' = true) ∧ cs'.size = cs.size := by
      intro hnt h3
      split at h3
      · rename_i hlen
        split at h3
        · rename_i hle
          obtain ⟨h4, h5⟩ := RepR.cells Z hu hnt
          have g1 := RepRs.length Z hz
          have g2 := RepRs.length Z h4
          simp only [Array.length_toList] at g1 g2
          have hfs := foldl_sets (a.eval x).cells.toList off 0 cs (by simp; omega)
          have hR : RepRs Z c (splice zs off (cellsR u)) (splice cs.toList off (a.eval x).cells.toList) := by
            rw [splice_eq _ _ _ (show off + (a.eval x).cells.toList.length ≤ cs.toList.length by simp; omega)]
            exact RepRs.splice hz h4 (by omega)
          have h1' : ∀ u ∈ splice cs.toList off (a.eval x).cells.toList, u.oneCell' = true := by
            rw [splice_eq _ _ _ (show off + (a.eval x).cells.toList.length ≤ cs.toList.length by simp; omega)]
            intro u hu
            simp only [List.mem_append] at hu
            rcases hu with (hu | hu) | hu
            · exact h1 u (List.mem_of_mem_take hu)
            · exact h5 u hu
            · exact h1 u (List.mem_of_mem_drop hu)
          simp only [Nat.add_zero] at hfs
          have ih := fill_spec he pl r l hl (splice zs off (cellsR u)) (((a.eval x).cells.toList.zipIdx 0).foldl (fun cs (c, j) => cs.setIfInBounds (off + j) c) cs) rs (by rw [hfs]; exact hR) (by rw [hfs]; exact h1') h3
          obtain ⟨cs', g3, g4, g5, g6⟩ := ih
          have hsz : (((a.eval x).cells.toList.zipIdx 0).foldl (fun cs (c, j) => cs.setIfInBounds (off + j) c) cs).size = cs.size := by
            rw [← Array.length_toList, hfs, splice_eq _ _ _ (show off + (a.eval x).cells.toList.length ≤ cs.toList.length by simp; omega)]
            simp
            omega
          refine ⟨cs', ?_, g4, g5, by rw [g6, hsz]⟩
          simp only [List.map_cons, Instr.fill, hp]
          rw [if_neg (by simp; omega)]
          have e : ((a.eval x).cells.zipIdx.foldl (fun cs (x : Value × Nat) => cs.setIfInBounds (off + x.2) x.1) cs) = (((a.eval x).cells.toList.zipIdx 0).foldl (fun cs (c, j) => cs.setIfInBounds (off + j) c) cs) := by
            rw [← Array.foldl_toList, Array.toList_zipIdx]
          rw [e]
          exact g3
        · simp at h3
      · simp at h3
    split at h3
    · simp at h3
    · rename_i hnt
      exact key (fun l e => hnt l e) h3

theorem run_places (w : World) : ∀ (fs : List Field), fs.all (fun f => (szOf P f.type).isSome) = true → (fs.mapM (m := Sem) fun f => do pure (f.offset, ← sizeOf f.type)).run P w = .ok (fs.map fun f => (f.offset, (szOf P f.type).getD 0)) w
  | [], _ => rfl
  | f :: r, h => by
    simp only [List.all_cons, Bool.and_eq_true, Option.isSome_iff_exists] at h
    obtain ⟨⟨n, hn⟩, h2⟩ := h
    simp only [List.mapM_cons, Sem.run_bind, run_size P hn, Result.andThen_ok, Sem.run_pure, run_places w r h2, List.map_cons, hn, Option.getD_some]

theorem opBuild (pr : Pre Z c id s a) {t : TypeId} {parts : Array (Nat × Operand)} {z : List RV} {is : List (Nat × Nat × IArg)} {pl : Nat → Option (Nat × Nat)} (hz : zeroOf P t = some z)
    (hpl : (∃ fs, P.underlying t = some (.struct fs) ∧ fs.toList.all (fun f => (szOf P f.type).isSome) = true ∧ pl = fun i => (fs[i]?).map fun f => (f.offset, (szOf P f.type).getD 0)) ∨ (∃ m e n, P.underlying t = some (.array m e) ∧ szOf P e = some n ∧ pl = fun i => some (i * n, n)))
    (hx : cBuild Z pl parts.toList = some is) (hop : o.op = .build t parts) (he : evOp C id (.build z is) s = some (.val v s')) :
    Done Z c id s s' v ((execOp a.eval o).run P c.w) := by
  simp only [evOp, Option.bind_eq_some_iff, Option.some.injEq, OpOut.val.injEq] at he
  obtain ⟨cs, h1, rfl, rfl⟩ := he
  obtain ⟨vz, h2, h3, h4⟩ := zeroOf_run (Z := Z) hz
  obtain ⟨cs', h5, h6, h7, _⟩ := fill_spec pr.env pl parts.toList is hx z vz.cells cs (h3 c) h4 h1
  refine Done.same Z pr.heap pr.H (vv := .agg cs') ?_ (RepR.mkAgg Z h7 h6)
  have hp : (parts.map fun (i, x) => (i, a.eval x)).toList = parts.toList.map fun (i, x) => (i, a.eval x) := by simp
  rcases hpl with ⟨fs, hu, hall, rfl⟩ | ⟨m, e, n, hu, hs, rfl⟩
  · have hm : (fs.mapM (m := Sem) fun f => do pure (f.offset, ← sizeOf f.type)).run P c.w = .ok (fs.map fun f => (f.offset, (szOf P f.type).getD 0)) c.w := by
      rw [Array.mapM_eq_mapM_toList]
      simp only [Sem.run_map, run_places c.w fs.toList hall]
      simp only [Result.andThen_ok, ← List.map_toArray, Array.toArray_toList]
    have hfun : (fun (i : Nat) => (fs.map fun (f : Field) => (f.offset, (szOf P f.type).getD 0))[i]?) = fun (i : Nat) => (fs[i]?).map fun (f : Field) => (f.offset, (szOf P f.type).getD 0) := by
      funext i
      simp
    simp only [execOp, hop, Instr.build, Sem.run_bind, h2, Result.andThen_ok, Sem.run_pure, run_underlying hu, hm, hp, hfun, h5]
  · simp only [execOp, hop, Instr.build, Sem.run_bind, h2, Result.andThen_ok, Sem.run_pure, run_underlying hu, run_size P hs, hp, h5]

end
end Go.Proofs.YtkcbomohgbafoaaDoor
/- Part of the text. -/
set_option linter.unusedVariables false
set_option linter.unusedSimpArgs false
namespace Go.Proofs.YtkcbomohgbafoaaDoor
open Go

section
variable {P : Program} {Z : Seat} {c : Conf} {id : Id} {s s' : St} {a : Act} {o : Oper} {io : IOp} {v : RV} {C : Calls'}

/-! ### slices built of their parts -/
theorem fill_order (n : Nat) (f : Operand → Value) : ∀ (parts : List (Nat × Operand)) (k : Nat) (cs : Array Value), inOrder k parts = true → (∀ p ∈ parts, (f p.2).cells.size = n) → (k + parts.length) * n ≤ cs.size →
    ∃ cs', Instr.fill (fun i => some (i * n, n)) cs (parts.map fun (i, x) => (i, f x)) = some cs' ∧ cs'.toList = cs.toList.take (k * n) ++ (parts.flatMap fun p => (f p.2).cells.toList) ++ cs.toList.drop ((k + parts.length) * n)
  | [], k, cs, h, h1, h2 => ⟨cs, rfl, by simp⟩
  | (i, x) :: r, k, cs, h, h1, h2 => by
    simp only [inOrder, Bool.and_eq_true, beq_iff_eq] at h
    obtain ⟨rfl, h⟩ := h
    have hs := h1 (i, x) (by simp)
    simp only at hs
    simp only [List.length_cons] at h2
    have hb : i * n + n ≤ cs.size := by
      have : i * n + n ≤ (i + (r.length + 1)) * n := by rw [← Nat.succ_mul]; exact Nat.mul_le_mul_right _ (by omega)
      omega
    have hfs := foldl_sets (f x).cells.toList (i * n) 0 cs (by simp; omega)
    rw [splice_eq _ _ _ (by simp; omega)] at hfs
    simp only [Nat.add_zero, Array.length_toList] at hfs
    have hsz : (((f x).cells.toList.zipIdx 0).foldl (fun cs (c, j) => cs.setIfInBounds (i * n + j) c) cs).size = cs.size := by
      rw [← Array.length_toList, hfs]
      simp
      omega
    obtain ⟨cs', g1, g2⟩ := fill_order n f r (i + 1) (((f x).cells.toList.zipIdx 0).foldl (fun cs (c, j) => cs.setIfInBounds (i * n + j) c) cs) h (fun p hp => h1 p (by simp [hp])) (by rw [hsz]; rw [show i + 1 + r.length = i + (r.length + 1) by omega]; exact h2)
    refine ⟨cs', ?_, ?_⟩
    · simp only [List.map_cons, Instr.fill]
      rw [if_neg (by simp; omega)]
      have e : ((f x).cells.zipIdx.foldl (fun cs (x : Value × Nat) => cs.setIfInBounds (i * n + x.2) x.1) cs) = (((f x).cells.toList.zipIdx 0).foldl (fun cs (c, j) => cs.setIfInBounds (i * n + j) c) cs) := by
        rw [← Array.foldl_toList, Array.toList_zipIdx]
      rw [e]
      exact g1
    · rw [g2, hfs]
      simp only [List.flatMap_cons, List.length_cons, hs]
      have e1 : (cs.toList.take (i * n) ++ (f x).cells.toList ++ cs.toList.drop (i * n + n)).take ((i + 1) * n) = cs.toList.take (i * n) ++ (f x).cells.toList := by
        apply List.take_left'
        simp [Nat.add_mul]
        omega
      have e2 : (cs.toList.take (i * n) ++ (f x).cells.toList ++ cs.toList.drop (i * n + n)).drop ((i + 1 + r.length) * n) = cs.toList.drop ((i + (r.length + 1)) * n) := by
        have : (i + 1 + r.length) * n = (cs.toList.take (i * n) ++ (f x).cells.toList).length + r.length * n := by
          simp [Nat.add_mul]
          omega
        rw [this, List.drop_append]
        simp only [Nat.add_sub_cancel_left, List.drop_drop]
        rw [List.drop_eq_nil_of_le (by omega), List.nil_append]
        congr 1
        simp [Nat.add_mul]
        omega
      rw [e1, e2]
      simp

theorem all_cells {I : IView} {n : Nat} : ∀ {ds : List PD} {vs : List Value}, RepVs Z I ds vs → ds.all (sizeD n) = true → ∀ v ∈ vs, v.cells.size = n
  | [], vs, h, h1, v, hv => by simp only [RepVs] at h; subst h; simp at hv
  | d :: r, vs, h, h1, v, hv => by
    simp only [RepVs] at h
    obtain ⟨u, t, rfl, h2, h3⟩ := h
    simp only [List.all_cons, Bool.and_eq_true, sizeD, beq_iff_eq] at h1
    rcases List.mem_cons.1 hv with rfl | hv
    · have := RepVs.length Z (RepD.cells Z h2).1
      simp at this
      omega
    · exact all_cells h3 (by simpa [sizeD] using h1.2) v hv

theorem opSlit (pr : Pre Z c id s a) {t e : TypeId} {len n : Nat} {parts : Array (Nat × Operand)} {is : List IArg} (hu : P.underlying t = some (.slice e)) (hs : szOf P e = some n) (hlen : len = parts.size) (ho : inOrder 0 parts.toList = true) (hn : n ≠ 0) (hle : len * n ≤ 16777216) (hz : (P.info? e).any (·.zero.isSome) = true)
    (hx : cArgs Z (parts.toList.map (·.2)) = some is) (hop : o.op = .buildSlice t len parts) (he : evOp C id (.slit n is) s = some (.val v s')) : Done Z c id s s' v ((execOp a.eval o).run P c.w) := by
  simp only [evOp, Option.bind_eq_some_iff] at he
  obtain ⟨vs, h1, ds, h2, h3⟩ := he
  split at h3
  · rename_i hall
    simp only [Option.some.injEq, OpOut.val.injEq] at h3
    obtain ⟨rfl, rfl⟩ := h3
    have hR := RepVs.of_toDs Z h2 (RepRs.args Z pr.env hx h1)
    simp only [List.map_map] at hR
    have hcz := all_cells hR hall
    obtain ⟨i, hi, vz, hvz⟩ : ∃ i, P.info? e = some i ∧ ∃ vz, i.zero = some vz := by
      rw [Option.any_eq_true_iff_get] at hz
      obtain ⟨q, hq⟩ := hz
      exact ⟨_, (Option.some_get q).symm, Option.isSome_iff_exists.1 hq⟩
    have hl : ds.length = len := by rw [RepVs.length Z hR, hlen]; simp
    have key : ∀ (zs : Array Value), ∃ cs', Instr.fill (fun i => some (i * n, n)) ((Array.range (len * n)).map (zs[· % zs.size]!)) (parts.toList.map fun (i, x) => (i, a.eval x)) = some cs' ∧ cs'.toList = (parts.toList.flatMap fun p => (a.eval p.2).cells.toList) := by
      intro zs
      obtain ⟨cs', g1, g2⟩ := fill_order n a.eval parts.toList 0 ((Array.range (len * n)).map (zs[· % zs.size]!)) ho (fun p hp => hcz _ (by simp; exact ⟨p.1, p.2, by simpa using hp, rfl⟩)) (by simp [hlen])
      refine ⟨cs', g1, ?_⟩
      rw [g2]
      simp [hlen]
    have hrun : ∃ cs', (execOp a.eval o).run P c.w = .ok (.value (.slice (some ⟨c.w.heap.size, 0, none⟩) len len)) (c.w.alloc (.cells cs' e)) ∧ cs'.toList = (parts.toList.flatMap fun p => (a.eval p.2).cells.toList) := by
      have hp : (parts.map fun (i, x) => (i, a.eval x)).toList = parts.toList.map fun (i, x) => (i, a.eval x) := by simp
      by_cases h0 : len * n = 0
      · obtain ⟨cs', g1, g2⟩ := key #[]
        refine ⟨cs', ?_, g2⟩
        simp only [execOp, hop, Instr.buildSlice, Sem.run_bind, run_underlying hu, Result.andThen_ok, run_size P hs, hp]
        rw [if_neg (by omega), if_pos h0]
        simp only [Sem.run_bind, Sem.run_pure, Result.andThen_ok, g1, newRow, run_newObj, World.alloc]
      · obtain ⟨cs', g1, g2⟩ := key vz.cells
        refine ⟨cs', ?_, g2⟩
        simp only [execOp, hop, Instr.buildSlice, Sem.run_bind, run_underlying hu, Result.andThen_ok, run_size P hs, hp]
        rw [if_neg (by omega), if_neg h0]
        simp only [Sem.run_bind, Sem.run_pure, Result.andThen_ok, zeroValue, run_info P hi, hvz, g1, newRow, run_newObj, World.alloc]
    obtain ⟨cs', hrun, hcs⟩ := hrun
    have hst := Step.pub (Z := Z) pr.heap (c.w.alloc (.cells cs' e)) cs'.size (by simp) (fun k hk => heap_alloc_lt _ _ hk) rfl rfl rfl
    rw [pr.H] at hst
    refine ⟨_, _, _, .inl hrun, hst.1, hst.2, ?_, fun j hj => .inl hj, rfl, rfl, rfl, rfl, rfl⟩
    simp only [RepR, RepD]
    have hlen' : len ≤ len * n := Nat.le_mul_of_pos_right _ (by omega)
    refine ⟨⟨_, _, _, rfl, hl.symm, by omega, Nat.le_refl _, .inr ⟨_, 0, n, rfl, ?_⟩⟩, _, _, rfl⟩
    refine RepEls.of_cells ds _ (RepVs.mono Z hst.1.ev.view _ _ (by obtain ⟨g, w, H⟩ := c; simp only at *; exact hR)) hcz _ _ (fun j u hu => ?_)
    have hu' : cs'[j]? = some u := by
      rw [← Array.getElem?_toList, hcs]
      simpa [List.flatMap_map] using hu
    have hj := (Array.getElem?_eq_some_iff.1 hu').1
    simp only [Conf.I, view, Nat.zero_add]
    rw [if_pos (by simp; exact hj), cell_of_row _ _ _ _ _ _ (heap_alloc_new' _ _)]
    exact hu'
  · simp at h3

theorem repVs_replicate {I : IView} {z : PD} {vz : Value} (h : RepD Z I z vz) : ∀ n, RepVs Z I (List.replicate n z) (List.replicate n vz)
  | 0 => by simp [RepVs]
  | n + 1 => by simp only [List.replicate_succ, RepVs]; exact ⟨vz, _, rfl, h, repVs_replicate h n⟩

theorem opMksl (pr : Pre Z c id s a) {t e : TypeId} {k k' : IntKind} {n : Int} {i : TypeInfo} {z : PD} (ht : P.underlying t = some (.slice e)) (hi : P.info? e = some i) (hz : zero1 P e = some (.data z)) (h0 : 0 < n) (h1 : n ≤ 1024) (hs : i.size = 1) (hb : i.bytes ≤ 1024) (hzc : (cellsD z).length = 1)
    (hop : o.op = .makeSlice t (.const (.int k n)) (.const (.int k' n))) (he : evOp C id (.mksl n.toNat z) s = some (.val v s')) : Done Z c id s s' v ((execOp a.eval o).run P c.w) := by
  simp only [evOp, Option.some.injEq, OpOut.val.injEq] at he
  obtain ⟨rfl, rfl⟩ := he
  have hz' := hz
  unfold zero1 at hz'
  simp only [Option.bind_eq_some_iff] at hz'
  obtain ⟨vz, ⟨i', g1, g2⟩, g3⟩ := hz'
  rw [hi] at g1
  simp only [Option.some.injEq] at g1
  subst g1
  have hR : ∀ c : Conf, RepD Z c.I z vz := fun c => by have := (RepR.const Z (c := c) g3).1; simpa only [RepR] using this
  have hc1 : vz.cells.size = 1 := by
    have := RepVs.length Z (RepD.cells Z (hR c)).1
    simp at this; omega
  obtain ⟨u0, hu0⟩ : ∃ u0, vz.cells = #[u0] := by
    obtain ⟨l, hl⟩ : ∃ l, vz.cells = ⟨l⟩ := ⟨vz.cells.toList, by simp⟩
    rw [hl] at hc1 ⊢
    simp at hc1
    obtain ⟨x, rfl⟩ := List.length_eq_one_iff.mp hc1
    exact ⟨x, rfl⟩
  obtain ⟨m, rfl⟩ : ∃ m : Nat, n = m := ⟨n.toNat, by omega⟩
  simp only [Int.toNat_natCast]
  have hw : IntKind.i64.wrap (m : Int) = m := by
    have e1 : (2 : Int) ^ IntKind.i64.bits = 18446744073709551616 := by decide
    have e2 : (2 : Int) ^ (IntKind.i64.bits - 1) = 9223372036854775808 := by decide
    have e3 : IntKind.i64.signed = true := rfl
    simp only [IntKind.wrap, e1, e2, e3, Bool.true_and, decide_eq_true_eq]
    split <;> omega
  have hbm : i.bytes * m ≤ 1024 * 1024 := Nat.mul_le_mul hb (show m ≤ 1024 by omega)
  have hbm' : m * i.bytes ≤ 1024 * 1024 := by rw [Nat.mul_comm]; exact hbm
  have hbi : (i.bytes : Int) * (m : Int) ≤ 1024 * 1024 := by
    have := Int.ofNat_le.mpr hbm
    rw [Int.natCast_mul] at this
    exact this
  have hrun : (execOp a.eval o).run P c.w = .ok (.value (.slice (some ⟨c.w.heap.size, 0, none⟩) m m)) (c.w.alloc (.cells ((Array.range (m * 1)).map (vz.cells[· % vz.cells.size]!)) e)) := by
    have hev : ∀ (k : IntKind), a.eval (.const (.int k (m : Int))) = .int k m := fun _ => rfl
    have n1 : ¬ ((m : Int) < 0) := by omega
    have n2 : ¬ (281474976710656 < (i.bytes : Int) * (m : Int)) := by omega
    have n4 : ¬ ((m : Int) < m) := by omega
    have n5 : ¬ (140737488355328 < m * i.bytes) := by omega
    have hm1 : ¬ (m = 0) := by omega
    simp only [execOp, hop, Sem.run_bind, hev]
    simp [Instr.makeSlice, run_underlying ht, asInt, asIntOf, typeInfo, hi, sizeOf, hs, zeroValue, g2, hw, n1, n2, n4, n5, hm1, newRow, askRoom, roomBytes, run_newObj]
  have hcs : ((Array.range (m * 1)).map (vz.cells[· % vz.cells.size]!)).toList = List.replicate m u0 := by
    apply List.ext_getElem?
    intro j
    simp [hu0, List.getElem?_replicate, Nat.mod_one]
    split <;> simp_all
  generalize ((Array.range (m * 1)).map (vz.cells[· % vz.cells.size]!)) = cs' at hrun hcs
  have hst := Step.pub (Z := Z) pr.heap (c.w.alloc (.cells cs' e)) cs'.size (by simp) (fun k hk => heap_alloc_lt _ _ hk) rfl rfl rfl
  rw [pr.H] at hst
  refine ⟨_, _, _, .inl hrun, hst.1, hst.2, ?_, fun j hj => .inl hj, rfl, rfl, rfl, rfl, rfl⟩
  simp only [RepR, RepD]
  refine ⟨⟨_, _, _, rfl, by simp, by omega, Nat.le_refl _, .inr ⟨_, 0, 1, rfl, ?_⟩⟩, _, _, rfl⟩
  refine RepEls.of_cells _ _ (repVs_replicate (hR _) m) (fun v hv => by rw [List.eq_of_mem_replicate hv]; exact hc1) _ _ (fun j u hu => ?_)
  have hu' : cs'[j]? = some u := by
    rw [← Array.getElem?_toList, hcs, ← hu]
    congr 1
    have : ∀ m : Nat, List.replicate m u0 = (List.replicate m vz).flatMap fun v => v.cells.toList := by
      intro m
      induction m with
      | zero => rfl
      | succ m ih => rw [List.replicate_succ, List.replicate_succ, List.flatMap_cons, ← ih, hu0]; rfl
    rw [this m]
  have hj := (Array.getElem?_eq_some_iff.1 hu').1
  simp only [Conf.I, view, Nat.zero_add]
  rw [if_pos (by simp; exact hj), cell_of_row _ _ _ _ _ _ (heap_alloc_new' _ _)]
  exact hu'

end
end Go.Proofs.YtkcbomohgbafoaaDoor
/- Part of the text. -/
set_option linter.unusedVariables false
set_option linter.unusedSimpArgs false
namespace Go.Proofs.YtkcbomohgbafoaaDoor
open Go

section
variable {P : Program} {Z : Seat} {c : Conf} {id : Id} {s s' : St} {a : Act} {o : Oper} {io : IOp} {v : RV} {C : Calls'}

/-! ### append -/
/-- The cells of a row of elements. -/
theorem RepEls.flat {I : IView} {sz : Nat} : ∀ (l : List PD) (b o : Nat), RepEls Z I sz l b o → ∃ us : List Value, us.length = l.length * sz ∧ (∀ u ∈ us, u.oneCell' = true) ∧ (∀ j u, us[j]? = some u → I b (o + j) = some u) ∧
    ∀ (J : IView) (b' o' : Nat), I.le J → (∀ j u, us[j]? = some u → J b' (o' + j) = some u) → RepEls Z J sz l b' o'
  | [], b, o, h => ⟨[], by simp, by simp, by simp, fun J b' o' _ _ => by simp only [RepEls]⟩
  | d :: r, b, o, h => by
    simp only [RepEls] at h
    obtain ⟨⟨v, h1, h2, h3⟩, h4⟩ := h
    obtain ⟨us, g1, g2, g3, g4⟩ := RepEls.flat r b (o + sz) h4
    have hc := RepD.cells Z h1
    refine ⟨v.cells.toList ++ us, ?_, ?_, ?_, ?_⟩
    · simp [g1, h2, Nat.add_mul]; omega
    · intro u hu
      rcases List.mem_append.1 hu with hu | hu
      · exact hc.2 u hu
      · exact g2 u hu
    · intro j u hu
      rw [List.getElem?_append] at hu
      split at hu
      · exact h3 j u (by simpa using hu)
      · rename_i hj
        simp only [Array.length_toList, h2] at hu hj
        have := g3 (j - sz) u hu
        rwa [show o + sz + (j - sz) = o + j by omega] at this
    · intro J b' o' hJ hus
      simp only [RepEls]
      refine ⟨⟨v, RepD.mono Z hJ d v h1, h2, fun j u hu => hus j u ?_⟩, g4 J b' (o' + sz) hJ fun j u hu => ?_⟩
      · rw [List.getElem?_append_left (by simpa using (Array.getElem?_eq_some_iff.1 hu).1)]
        simpa using hu
      · have := hus (sz + j) u (by rw [List.getElem?_append_right (by simp [h2])]; simpa [h2] using hu)
        rwa [← Nat.add_assoc] at this

/-- A slice that isn't empty. -/
theorem RepD.flat {I : IView} {sz : Nat} {l : List PD} {x : Value} (h : RepD Z I (.list l) x) (hne : l ≠ []) (hall : l.all (sizeD sz) = true) : ∃ (b o n : Nat) (us : List Value), x = .slice (some ⟨b, o, none⟩) l.length n ∧ l.length ≤ n ∧ l.length ≤ 9223372036854775807 ∧ us.length = l.length * sz ∧ (∀ u ∈ us, u.oneCell' = true) ∧ (∀ j u, us[j]? = some u → I b (o + j) = some u) ∧
    ∀ (J : IView) (b' o' : Nat), I.le J → (∀ j u, us[j]? = some u → J b' (o' + j) = some u) → RepEls Z J sz l b' o' := by
  simp only [RepD] at h
  obtain ⟨ad, n, cp, rfl, rfl, h2, h3, h4⟩ := h
  rcases h4 with h4 | ⟨b, o, sz', rfl, h4⟩
  · exact absurd h4 hne
  · have hs : sz' = sz := by
      obtain ⟨d, hd⟩ := List.exists_mem_of_ne_nil l hne
      have e1 := RepEls.size Z h4 d hd
      have e2 := List.all_eq_true.1 hall d hd
      simp only [sizeD, beq_iff_eq] at e2
      omega
    subst hs
    obtain ⟨us, g1, g2, g3, g4⟩ := RepEls.flat l b o h4
    exact ⟨b, o, cp, us, rfl, h3, h2, g1, g2, g3, g4⟩

theorem view_cell {g : Gh} {w : World} {b o : Nat} {us : List Value} (h : ∀ j u, us[j]? = some u → view g w b (o + j) = some u) : ∀ j u, us[j]? = some u → w.cell? ((⟨b, o, none⟩ : Addr).add j) = some u := by
  intro j u hu
  rw [add_none]
  exact (view_some (h j u hu)).2

/-- A row that is appended to has come to lie in a new block. -/
theorem Step.tokNew {c : Conf} (hH : HeapOK Z c) {id : Id} {e sz n' : Nat} (hid : ¬ c.g.D id ∨ ∃ n, c.H id = some (.tok e sz n) ∧ n < n') (hsz : 0 < sz) {w' : World} (hsize : c.w.heap.size ≤ w'.heap.size)
    (hb : ∀ b, b < c.w.heap.size → w'.heap[b]? = c.w.heap[b]?) (h1 : w'.os = c.w.os) (h2 : w'.tape = c.w.tape) (h3 : w'.output = c.w.output) {g cap : Nat} {cur : Array Value} (hg : c.w.heap.size ≤ g) (hgg : w'.heap[g]? = some (.cells cur (Z.ty e) (0, 0))) (hn : n' ≤ cap) (hcap : cap ≤ 9223372036854775807) (hcur : cur.size = cap * sz) :
    let c' : Conf := ⟨{ c.g with tb := fun i => if i = id then g else c.g.tb i, tcap := fun i => if i = id then cap else c.g.tcap i, imm := fun b => if b < c.w.heap.size then c.g.imm b else if b = g then n' * sz else 0, D := fun i => c.g.D i ∨ i = id }, w', upd c.H id (.tok e sz n')⟩
    Step c c' ∧ HeapOK Z c' := by
  intro c'
  have hno : ∀ e' sz' n, c.H id = some (.tok e' sz' n) → e' = e ∧ sz' = sz ∧ n < n' := by
    intro e' sz' n h
    rcases hid with hid | ⟨m, hm, hlt⟩
    · exact absurd (hH.obj id _ h).1 hid
    · rw [hm] at h
      simp only [Option.some.injEq, AObj.tok.injEq] at h
      obtain ⟨rfl, rfl, rfl, rfl, rfl⟩ := h
      exact ⟨rfl, rfl, hlt⟩
  have hntk : ∀ o, c.H id = some o → ∃ n, o = .tok e sz n := by
    intro o h
    rcases hid with hid | ⟨m, hm, hlt⟩
    · exact absurd (hH.obj id _ h).1 hid
    · rw [hm] at h
      simp only [Option.some.injEq] at h
      exact ⟨m, h.symm⟩
  have hv : c.I.le c'.I := by
    intro b o v hv
    have hlt := view_lt hv
    obtain ⟨h4, h5⟩ := view_some hv
    simp only [c', view]
    rw [if_pos (by rw [if_pos hlt]; exact h4), cell_of_heap (hb b hlt)]
    exact h5
  have ev : Evolve c c' := by
    refine ⟨fun i h => .inl h, fun i h => rfl, hv, fun t ht e' sz' n h => ?_, hsize, fun _ _ => rfl⟩
    simp only [c', upd] at h ⊢
    split at h
    · rename_i e1; subst e1
      simp only [Option.some.injEq, AObj.tok.injEq] at h
      obtain ⟨rfl, rfl, rfl, rfl, rfl⟩ := h
      rcases hid with hid | ⟨m, hm, hlt⟩
      · exact absurd ht hid
      · exact ⟨m, hm, by omega, fun e => by omega⟩
    · rename_i e1
      exact ⟨n, h, Nat.le_refl _, fun _ => by rw [if_neg e1, if_neg e1]; exact ⟨rfl, rfl⟩⟩
  have hob : ∀ i o', i ≠ id → objBlk c'.g i o' = objBlk c.g i o' := by
    intro i o' h
    cases o' <;> simp [objBlk, c', h]
  have hnew : objBlk c'.g id (.tok e sz n') = g := by simp [objBlk, c']
  refine ⟨⟨ev, fun b hlt hne => ⟨hb b hlt, by simp only [c']; rw [if_pos hlt]⟩, fun i o' h => ?_, h1, h2, h3⟩, fun i o' h => ?_, fun i j o1 o2 h h' e => ?_⟩
  · simp only [c', upd] at h
    split at h
    · rename_i e; subst e
      simp only [Option.some.injEq] at h; subst h
      exact .inl (by rw [hnew]; exact hg)
    · rename_i e
      exact .inr ⟨i, o', h, (hob i o' e).symm⟩
  · simp only [c', upd] at h
    split at h
    · rename_i e; subst e
      simp only [Option.some.injEq] at h; subst h
      refine ⟨.inr rfl, cur, ?_, hsz, ?_, ?_, ?_, ?_⟩
      · simp only [c', if_true]; exact hgg
      · simp only [c', if_true]; exact hn
      · simp only [c', if_true]; exact hcap
      · simp only [c', if_true]; exact hcur
      · simp only [c', if_true]; rw [if_neg (by omega)]
    · rename_i e
      obtain ⟨hD, hr⟩ := hH.obj i o' h
      have hl := objBlk_lt Z hH h
      exact ⟨.inl hD, ObjR.kept Z ev hr hD (fun _ _ _ _ => by simp only [c']; rw [if_neg e, if_neg e]; exact ⟨rfl, rfl⟩) (hb _ hl) (by simp only [c']; rw [if_pos hl])⟩
  · simp only [c', upd] at h h'
    split at h <;> split at h'
    · rename_i e1 e2; rw [e1, e2]
    · rename_i e1 e2
      subst e1
      simp only [Option.some.injEq] at h; subst h
      rw [hnew, hob j o2 e2] at e
      have := objBlk_lt Z hH h'
      omega
    · rename_i e1 e2
      subst e2
      simp only [Option.some.injEq] at h'; subst h'
      rw [hnew, hob i o1 e1] at e
      have := objBlk_lt Z hH h
      omega
    · rename_i e1 e2
      rw [hob i o1 e1, hob j o2 e2] at e
      exact hH.one i j o1 o2 h h' e

/-- A row that is appended to within its block. -/
theorem Step.tokRoom {c : Conf} (hH : HeapOK Z c) {id : Id} {e sz n n' : Nat} (hid : c.H id = some (.tok e sz n)) (hlt : n < n') {cur cur' : Array Value} (hcur : c.w.heap[c.g.tb id]? = some (.cells cur (Z.ty e) (0, 0))) (hn : n' ≤ c.g.tcap id) (hsame : cur'.toList.take (n * sz) = cur.toList.take (n * sz)) (hsz' : cur'.size = cur.size) :
    let c' : Conf := ⟨{ c.g with imm := fun b => if b = c.g.tb id then n' * sz else c.g.imm b }, c.w.setRow (c.g.tb id) cur', upd c.H id (.tok e sz n')⟩
    Step c c' ∧ HeapOK Z c' := by
  intro c'
  obtain ⟨hDid, cur0, k1, k2, k3, k4, k5, k6⟩ := hH.obj id _ hid
  rw [hcur] at k1
  simp only [Option.some.injEq, Obj.cells.injEq, and_true] at k1
  subst k1
  have hv : c.I.le c'.I := by
    intro b o v hv
    obtain ⟨h4, h5⟩ := view_some hv
    simp only [c', view]
    by_cases hb : b = c.g.tb id
    · subst hb
      rw [if_pos rfl]
      rw [k6] at h4
      have hlt2 : o < n' * sz := Nat.lt_of_lt_of_le h4 (Nat.mul_le_mul_right _ (by omega))
      rw [if_pos hlt2, cell_of_row _ _ _ _ _ _ (setRow_heap c.w _ cur cur' _ _ hcur)]
      rw [cell_of_row _ _ _ _ _ _ hcur] at h5
      have e1 : (cur'.toList.take (n * sz))[o]? = (cur.toList.take (n * sz))[o]? := by rw [hsame]
      rw [List.getElem?_take_of_lt h4, List.getElem?_take_of_lt h4] at e1
      simpa [h5] using e1
    · rw [if_neg hb, if_pos h4, cell_of_heap (setRow_other _ _ _ _ hb)]
      exact h5
  have ev : Evolve c c' := by
    refine ⟨fun i h => h, fun i h => rfl, hv, fun t ht e' sz' m h => ?_, by simp [c'], fun _ _ => rfl⟩
    simp only [c', upd] at h
    split at h
    · rename_i e1; subst e1
      simp only [Option.some.injEq, AObj.tok.injEq] at h
      obtain ⟨rfl, rfl, rfl, rfl, rfl⟩ := h
      exact ⟨n, hid, by omega, fun e => by omega⟩
    · exact ⟨m, h, Nat.le_refl _, fun _ => ⟨rfl, rfl⟩⟩
  have hnew : ∀ q k, objBlk c.g id (.tok e q k) = c.g.tb id := fun _ _ => rfl
  refine ⟨⟨ev, fun b hlt hne => ?_, fun i o' h => ?_, rfl, rfl, rfl⟩, fun i o' h => ?_, fun i j o1 o2 h h' e => ?_⟩
  · have hb : b ≠ c.g.tb id := fun e => hne id _ hid e.symm
    exact ⟨setRow_other _ _ _ _ hb, by simp only [c']; rw [if_neg hb]⟩
  · simp only [c', upd] at h
    split at h
    · rename_i e; subst e
      simp only [Option.some.injEq] at h; subst h
      exact .inr ⟨i, _, hid, rfl⟩
    · exact .inr ⟨i, o', h, by cases o' <;> rfl⟩
  · simp only [c', upd] at h
    split at h
    · rename_i e; subst e
      simp only [Option.some.injEq] at h; subst h
      refine ⟨hDid, cur', setRow_heap c.w _ cur cur' _ _ hcur, k2, hn, k4, by rw [hsz']; exact k5, by simp [c']⟩
    · rename_i e
      obtain ⟨hD, hr⟩ := hH.obj i o' h
      have hne : objBlk c.g i o' ≠ c.g.tb id := fun e' => e (hH.one i id o' _ h hid e')
      exact ⟨hD, ObjR.kept Z ev hr hD (fun _ _ _ _ => ⟨rfl, rfl⟩) (setRow_other _ _ _ _ hne) (by simp only [c']; rw [if_neg hne])⟩
  · have hob : ∀ i o', objBlk c'.g i o' = objBlk c.g i o' := by intro i o'; cases o' <;> rfl
    rw [hob, hob] at e
    simp only [c', upd] at h h'
    split at h <;> split at h'
    · rename_i e1 e2; rw [e1, e2]
    · rename_i e1 e2
      subst e1
      simp only [Option.some.injEq] at h; subst h
      exact hH.one i j _ o2 hid h' e
    · rename_i e1 e2
      subst e2
      simp only [Option.some.injEq] at h'; subst h'
      exact hH.one i j o1 _ h hid e
    · exact hH.one i j o1 o2 h h' e

end
end Go.Proofs.YtkcbomohgbafoaaDoor
/- Part of the text. -/
set_option linter.unusedVariables false
set_option linter.unusedSimpArgs false
namespace Go.Proofs.YtkcbomohgbafoaaDoor
open Go

section
variable {P : Program} {Z : Seat} {c : Conf} {id : Id} {s s' : St} {a : Act} {o : Oper} {io : IOp} {v : RV} {C : Calls'}

/-- A row of ours that has come to lie in a new block. -/
theorem Done.grown (pr : Pre Z c id s a) {t : Id} {e sz n' : Nat} {l : List PD} (hl : l.length = n') (hid : (t = id ∧ ¬ c.g.D t) ∨ (c.g.D t ∧ ∃ n, c.H t = some (.tok e sz n) ∧ n < n')) (hsz : 0 < sz) {w' : World} {v' : Value} {us : List Value} (hne : v' ≠ .slice none 0 0) (hall : l.all (sizeD sz) = true)
    (hown : w'.ownsRow c.w.heap.size (Z.ty e) sz v' n' us) (hg : ∀ b, b < c.w.heap.size → w'.heap[b]? = c.w.heap[b]?) (hsize : c.w.heap.size ≤ w'.heap.size) (h1 : w'.os = c.w.os) (h2 : w'.tape = c.w.tape) (h3 : w'.output = c.w.output)
    (hus : ∀ (J : IView) (b' o' : Nat), c.I.le J → (∀ j u, us[j]? = some u → J b' (o' + j) = some u) → RepEls Z J sz l b' o')
    {r : Result Next} (hr : r = .ok (.value v') w') : Done Z c id s (s.obj t (.tok e sz n')) (.acc l t) r := by
  obtain ⟨hlen, hrow⟩ := hown
  rcases hrow with ⟨rfl, _⟩ | ⟨g, cap, cur, rfl, hbg, hgg, hnc, hcm, hcs, htake⟩
  · exact absurd rfl hne
  · have hcm' : cap ≤ 9223372036854775807 := by simp only [maxLen] at hcm; omega
    have hst := Step.tokNew (Z := Z) pr.heap (id := t) (n' := n') (e := e) (sz := sz) (by rcases hid with ⟨rfl, h⟩ | ⟨_, h⟩; exact .inl h; exact .inr h) hsz hsize hg h1 h2 h3 hbg hgg hnc hcm' hcs
    simp only [pr.H] at hst
    refine ⟨_, _, _, .inl hr, hst.1, hst.2, ?_, fun j hj => ?_, rfl, rfl, rfl, rfl, rfl⟩
    · have hle : c.I.le (Conf.I ⟨{ c.g with tb := fun i => if i = t then g else c.g.tb i, tcap := fun i => if i = t then cap else c.g.tcap i, imm := fun b => if b < c.w.heap.size then c.g.imm b else if b = g then n' * sz else 0, D := fun i => c.g.D i ∨ i = t }, w', upd s.heap t (.tok e sz n')⟩) := hst.1.ev.view
      simp only [RepR, RepD]
      refine ⟨⟨_, _, _, rfl, hl.symm, by omega, hnc, .inr ⟨g, 0, sz, rfl, hus _ _ _ hle fun j u hu => ?_⟩⟩, .inr trivial, fun e' sz' n h => ?_⟩
      · have hj := (List.getElem?_eq_some_iff.1 hu).1
        simp only [Conf.I, view, Nat.zero_add]
        rw [if_pos (by rw [if_neg (by omega), if_pos trivial]; omega), cell_of_row _ _ _ _ _ _ hgg]
        rw [← htake, List.getElem?_take] at hu
        rw [if_pos (by omega)] at hu
        simpa using hu
      · simp only [St.obj, upd, if_true, Option.some.injEq, AObj.tok.injEq] at h
        obtain ⟨rfl, rfl, rfl, rfl, rfl⟩ := h
        refine ⟨by omega, fun _ => ⟨by simp, fun d hd => all_size hall d hd⟩⟩
    · rcases hj with hj | rfl
      · exact .inl hj
      · rcases hid with ⟨rfl, _⟩ | ⟨h, _⟩
        · exact .inr (List.prefix_refl _)
        · exact .inl h

theorem append_none (t ty e : TypeId) {sz : Nat} (ht : P.underlying t = some (.slice e)) (hs : szOf P e = some sz) (w : World) (ba xa : Option Addr) (n cp c' : Nat) (h : n ≤ cp) :
    (Builtin.append_ #[t, t] ty #[.slice ba n cp, .slice xa 0 c']).run P w = .ok (.slice ba n cp) w := by
  have hf : (Builtin.firstCells sz 0 (.slice xa 0 c')).run P w = .ok #[] w := by
    cases xa with
    | none => simp [Builtin.firstCells]
    | some ad => simpa using run_firstCells_some (P := P) w sz 0 ad 0 c' [] (by simp) (by simp)
  cases ba with
  | none => simp [Builtin.append_, run_underlying ht, run_size P hs, Builtin.lenOf, h, hf]
  | some ad => simp [Builtin.append_, run_underlying ht, run_size P hs, Builtin.lenOf, h, hf, storeCells]

theorem opAppend (pr : Pre Z c id s a) {xs : Array Operand} {ts : Array TypeId} {sx x : Operand} {t e : TypeId} {i : TypeInfo} {ec : Nat} {is ix : IArg} (hxs : xs.toList = [sx, x]) (hts : ts.toList = [t, t]) (ht : P.underlying t = some (.slice e)) (hi : P.info? e = some i) (hsz : i.size ≠ 0) (hby : i.bytes ≠ 0) (hz : i.zero.map (·.cells.size) = some i.size) (hec : Z.ty ec = e)
    (hs : cArg Z sx = some is) (hx : cArg Z x = some ix) (hop : o.op = .call { callee := .builtin .append, args := xs, argTypes := ts }) (he : evOp C id (.append ec i.size i.bytes is ix) s = some (.val v s')) :
    Done Z c id s s' v ((execOp a.eval o).run P c.w) := by
  obtain ⟨z, hz1, hz2⟩ := Option.map_eq_some_iff.1 hz
  simp only [evOp, Option.bind_eq_some_iff] at he
  obtain ⟨vs, h1, wx, h2, more, h3, h4⟩ := he
  have hvs := RepR.arg Z pr.env hs h1
  have hmore := RepD.elems (RepR.arg Z pr.env hx h2) h3
  have hsz' : szOf P e = some i.size := by simp [szOf, hi]
  have hexec : ∀ {u w'}, (Builtin.append_ #[t, t] o.type #[a.eval sx, a.eval x]).run P c.w = .ok u w' → (execOp a.eval o).run P c.w = .ok (.value u) w' := by
    intro u w' hr
    obtain ⟨ks, h⟩ := run_builtin (P := P) (a := a) hop
    have e2 : ts = #[t, t] := by apply Array.ext'; simpa using hts
    rw [h, arr2 hxs, e2]
    simp only [builtin, Sem.run_bind, hr, Result.andThen_ok, Sem.run_pure]
  have hcond : ∀ {k m : Nat}, (k + m) * i.bytes ≤ 140737488355328 → k + m ≤ maxLen := by
    intro k m h
    have := Nat.le_trans (Nat.le_mul_of_pos_right (k + m) (show 0 < i.bytes by omega)) h
    simp only [maxLen]
    omega
  split at h4
  · rename_i hemp
    simp only [Option.bind_eq_some_iff, Option.some.injEq, OpOut.val.injEq] at h4
    obtain ⟨l, h5, rfl, rfl⟩ := h4
    have hl := RepD.elems hvs h5
    have hm0 : more = [] := by simpa using hemp
    subst hm0
    refine Done.same Z pr.heap pr.H (vv := a.eval sx) (hexec ?_) hvs
    simp only [RepD] at hl hmore
    obtain ⟨ba, n, cp, e1, _, _, hcp, _⟩ := hl
    obtain ⟨xa, n', cp', e2, hn', _, _, _⟩ := hmore
    simp only [List.length_nil] at hn'
    subst hn'
    rw [e1, e2]
    exact append_none t o.type e ht hsz' c.w ba xa n cp cp' hcp
  · rename_i hemp
    have hne : more ≠ [] := by simpa using hemp
    split at h4
    · rename_i hallm
      obtain ⟨xb, xo, xc, news, hxv, _, _, hnl, hn1, hnc, hnr⟩ := RepD.flat hmore hne hallm
      have hm0 : 0 < more.length := by cases more; exact absurd rfl hne; simp
      have hnews := view_cell hnc
      split at h4
      · rename_i l
        split at h4
        · rename_i hc
          obtain ⟨halll, hbytes⟩ := hc
          simp only [Option.some.injEq, OpOut.val.injEq] at h4
          obtain ⟨rfl, rfl⟩ := h4
          simp only [RepR] at hvs
          obtain ⟨hld, ba, n, hv⟩ := hvs
          have hln : n = l.length := by
            simp only [RepD] at hld
            obtain ⟨_, _, _, e1, e2, _⟩ := hld
            rw [hv] at e1
            simp only [Value.slice.injEq] at e1
            omega
          subst hln
          have hall2 : (l ++ more).all (sizeD i.size) = true := by rw [List.all_append, halll, hallm]; rfl
          by_cases hl0 : l = []
          · subst hl0
            cases ba with
            | none =>
              obtain ⟨v', w', g1, g2, g3, g4⟩ := run_append_own (P := P) c.w c.w.heap.size t o.type e i z i.size i.bytes ht hi hz1 rfl rfl hz2 (by omega) (.slice none 0 0) 0 [] (World.ownsRow_nil _ _ _ _) ⟨xb, xo, none⟩ more.length xc news hnl hnews hn1 (hcond hbytes) hbytes (Nat.le_refl _)
              have hr := hexec (by rw [hv, hxv]; exact g1)
              subst hec
              refine Done.grown pr (by simp) (.inl ⟨rfl, pr.idD⟩) (by omega) ?_ hall2 g2 (fun b hb => g3.block b hb (by simp [Value.ownBlock])) g3.size g3.os g3.tape g3.output ?_ hr
              · intro h
                have := (g4.1 h).2
                omega
              · simpa using hnr
            | some ad =>
              obtain ⟨v', w', g1, g2, g3⟩ := run_append_arg_grows (P := P) c.w t o.type e i z i.size i.bytes ht hi hz1 rfl rfl hz2 (by omega) ad 0 0 [] (by simp) (by simp) ⟨xb, xo, none⟩ more.length xc news hnl hnews (by omega) (hcond hbytes) hbytes
              have hr := hexec (by rw [hv, hxv]; exact g1)
              subst hec
              refine Done.grown pr (by simp) (.inl ⟨rfl, pr.idD⟩) (by omega) ?_ hall2 g2 (fun b hb => g3.block b hb (by simp)) g3.size g3.os g3.tape g3.output ?_ hr
              · rintro rfl
                rcases g2.2 with ⟨_, h⟩ | ⟨_, _, _, h, _⟩
                · omega
                · simp at h
              · simpa using hnr
          · obtain ⟨lb, lo, lc, olds, hlv, _, _, hol, ho1, hoc, hor⟩ := RepD.flat hld hl0 halll
            have hlc : lc = l.length := by
              rw [hv] at hlv
              simp only [Value.slice.injEq] at hlv
              omega
            subst hlc
            obtain ⟨v', w', g1, g2, g3⟩ := run_append_arg_grows (P := P) c.w t o.type e i z i.size i.bytes ht hi hz1 rfl rfl hz2 (by omega) ⟨lb, lo, none⟩ l.length l.length olds hol (view_cell hoc) ⟨xb, xo, none⟩ more.length xc news hnl hnews (by omega) (hcond hbytes) hbytes
            have hr := hexec (by rw [hlv, hxv]; exact g1)
            subst hec
            refine Done.grown pr (by simp) (.inl ⟨rfl, pr.idD⟩) (by omega) ?_ hall2 g2 (fun b hb => g3.block b hb (by simp)) g3.size g3.os g3.tape g3.output ?_ hr
            · rintro rfl
              rcases g2.2 with ⟨_, h⟩ | ⟨_, _, _, h, _⟩
              · omega
              · simp at h
            · intro J b' o' hJ hus
              refine RepEls.append Z (hor J b' o' hJ fun j u hu => hus j u ?_) (hnr J b' _ hJ fun j u hu => ?_)
              · rw [List.getElem?_append_left (List.getElem?_eq_some_iff.1 hu).1]; exact hu
              · have := hus (olds.length + j) u (by rw [List.getElem?_append_right (by omega)]; simpa using hu)
                rwa [hol, ← Nat.add_assoc] at this
        · simp at h4
      · rename_i l t'
        simp only [Option.bind_eq_some_iff] at h4
        obtain ⟨ob, hob, h5⟩ := h4
        split at h5
        · rename_i e' sz' n
          split at h5
          · rename_i hc
            obtain ⟨rfl, rfl, rfl, rfl, rfl⟩ := hc
            split at h5
            · rename_i hbytes
              simp only [Option.some.injEq, OpOut.val.injEq] at h5
              obtain ⟨rfl, rfl⟩ := h5
              simp only [RepR] at hvs
              obtain ⟨hld, hD, htk⟩ := hvs
              have hH : c.H t' = some (.tok e' i.size l.length) := by rw [pr.H]; exact hob
              obtain ⟨_, hv2⟩ := htk _ _ _ hH
              obtain ⟨hv, hcl⟩ := hv2 rfl
              obtain ⟨_, cur, k1, k2, k3, k4, k5, k6⟩ := pr.heap.obj t' _ hH
              have halll : l.all (sizeD i.size) = true := by
                rw [List.all_eq_true]
                intro d hd
                simp [sizeD, hcl d hd]
              have hall2 : (l ++ more).all (sizeD i.size) = true := by rw [List.all_append, halll, hallm]; rfl
              rw [hec] at k1
              -- the old elements
              obtain ⟨olds, hol, ho1, hoc, hor⟩ : ∃ olds : List Value, olds.length = l.length * i.size ∧ (∀ u ∈ olds, u.oneCell' = true) ∧ (∀ j u, olds[j]? = some u → c.I (c.g.tb t') (0 + j) = some u) ∧ ∀ (J : IView) (b' o' : Nat), c.I.le J → (∀ j u, olds[j]? = some u → J b' (o' + j) = some u) → RepEls Z J i.size l b' o' := by
                by_cases hl0 : l = []
                · subst hl0
                  exact ⟨[], by simp, by simp, by simp, fun _ _ _ _ _ => by simp only [RepEls]⟩
                · obtain ⟨lb, lo, lc, olds, hlv, _, _, hol, ho1, hoc, hor⟩ := RepD.flat hld hl0 halll
                  rw [hv] at hlv
                  simp only [Value.slice.injEq, Option.some.injEq, Addr.mk.injEq] at hlv
                  obtain ⟨⟨rfl, rfl, _⟩, _, _⟩ := hlv
                  exact ⟨olds, hol, ho1, hoc, hor⟩
              have hjoin : ∀ (J : IView) (b' o' : Nat), c.I.le J → (∀ j u, (olds ++ news)[j]? = some u → J b' (o' + j) = some u) → RepEls Z J i.size (l ++ more) b' o' := by
                intro J b' o' hJ hus
                refine RepEls.append Z (hor J b' o' hJ fun j u hu => hus j u ?_) (hnr J b' _ hJ fun j u hu => ?_)
                · rw [List.getElem?_append_left (List.getElem?_eq_some_iff.1 hu).1]; exact hu
                · have := hus (olds.length + j) u (by rw [List.getElem?_append_right (by omega)]; simpa using hu)
                  rwa [hol, ← Nat.add_assoc] at this
              by_cases hroom : l.length + more.length ≤ c.g.tcap t'
              · have hfit : l.length * i.size + news.length ≤ cur.size := by rw [hnl, k5, ← Nat.add_mul]; exact Nat.mul_le_mul_right _ hroom
                have hr0 := run_append_room (P := P) c.w t o.type e i ht hi (c.g.tb t') l.length (c.g.tcap t') cur k1 ⟨xb, xo, none⟩ more.length xc news hnl hnews hn1 hroom hfit
                have hr := hexec (by rw [hv, hxv]; exact hr0)
                have hst := Step.tokRoom (Z := Z) pr.heap hH (n' := l.length + more.length) (by omega) (cur := cur) (cur' := (cur.toList.take (l.length * i.size) ++ news ++ cur.toList.drop (l.length * i.size + news.length)).toArray) (by rw [hec]; exact k1) hroom (by
                    simp only [List.append_assoc]
                    exact List.take_left' (by simp; omega)) (by simp; omega)
                simp only [pr.H] at hst
                refine ⟨_, _, _, .inl hr, hst.1, hst.2, ?_, fun j hj => .inl hj, rfl, rfl, rfl, rfl, rfl⟩
                simp only [RepR, RepD]
                refine ⟨⟨_, _, _, rfl, by simp, by omega, hroom, .inr ⟨c.g.tb t', 0, i.size, rfl, hjoin _ _ _ hst.1.ev.view fun j u hu => ?_⟩⟩, hD, fun e'' sz'' n h => ?_⟩
                · have hj := (List.getElem?_eq_some_iff.1 hu).1
                  simp only [List.length_append, hol, hnl] at hj
                  simp only [Conf.I, view, Nat.zero_add]
                  rw [if_pos trivial, if_pos (by rw [Nat.add_mul]; exact hj), cell_of_row _ _ _ _ _ _ (setRow_heap c.w _ cur _ _ _ k1)]
                  have hjc : j < cur.size := by omega
                  rw [List.getElem?_toArray]
                  rw [List.getElem?_append] at hu
                  split at hu
                  · rename_i hj1
                    have := hoc j u hu
                    simp only [Conf.I, Nat.zero_add] at this
                    obtain ⟨_, g5⟩ := view_some this
                    rw [cell_of_row _ _ _ _ _ _ k1] at g5
                    rw [List.append_assoc, List.getElem?_append_left (by simp; omega), List.getElem?_take_of_lt (by omega)]
                    simpa using g5
                  · rename_i hj1
                    rw [List.append_assoc, List.getElem?_append_right (by simp; omega), List.getElem?_append_left (by simp; omega)]
                    rw [← hu]
                    congr 1
                    simp
                    omega
                · simp only [St.obj, upd, if_true, Option.some.injEq, AObj.tok.injEq] at h
                  obtain ⟨rfl, rfl, rfl, rfl, rfl⟩ := h
                  exact ⟨by simp, fun _ => ⟨rfl, fun d hd => all_size hall2 d hd⟩⟩
              · obtain ⟨v', w', g1, g2, g3⟩ := run_append_arg_grows (P := P) c.w t o.type e i z i.size i.bytes ht hi hz1 rfl rfl hz2 (by omega) ⟨c.g.tb t', 0, none⟩ l.length (c.g.tcap t') olds hol (view_cell hoc) ⟨xb, xo, none⟩ more.length xc news hnl hnews (by omega) (hcond hbytes) hbytes
                have hr := hexec (by rw [hv, hxv]; exact g1)
                rw [← hec] at g2
                refine Done.grown pr (by simp) (.inr ⟨hD, _, hH, by omega⟩) (by omega) ?_ hall2 g2 (fun b hb => g3.block b hb (by simp)) g3.size g3.os g3.tape g3.output hjoin hr
                rintro rfl
                rcases g2.2 with ⟨_, h⟩ | ⟨_, _, _, h, _⟩
                · omega
                · simp at h
            · simp at h5
          · simp at h5
        · simp at h5
      · simp at h4
    · simp at h4

end
end Go.Proofs.YtkcbomohgbafoaaDoor
