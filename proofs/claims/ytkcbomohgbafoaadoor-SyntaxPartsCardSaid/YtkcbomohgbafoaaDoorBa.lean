/- Library functions that are known by their contracts, as calls of the evaluator. -/
import Derived.Test.YtkcbomohgbafoaaDoorSd
import Derived.Test.YtkcbomohgbafoaaDoorEe
import Derived.Shelf.LaysM
import Derived.Shelf.Strings.Shaped
import Derived.Shelf.Strings.Replace
import Derived.Shelf.Strings.SplitShaped
set_option linter.unusedSimpArgs false
set_option linter.unusedVariables false
namespace Go.Proofs.YtkcbomohgbafoaaDoor
open Go Go.RowKit

/-! ### quotes are doubled -/
theorem index_one (s : Str) : (Lib.index s [39] = -1 ∧ 39 ∉ s) ∨ ∃ u v, s = u ++ 39 :: v ∧ 39 ∉ u ∧ Lib.index s [39] = (u.length : Int) := by
  induction s with
  | nil => left; simp [Lib.index]
  | cons c s ih =>
    by_cases hc : c = 39
    · subst hc
      exact .inr ⟨[], s, rfl, by simp, by simp [Lib.index]⟩
    · have e : ([39] : List UInt8).isPrefixOf (c :: s) = false := by
        have : (39 == c) = false := by simpa using fun h => hc h.symm
        simp [List.isPrefixOf, this]
      rcases ih with ⟨h1, h2⟩ | ⟨u, v, rfl, h2, h3⟩
      · left
        refine ⟨by simp [Lib.index, e, h1], ?_⟩
        simp only [List.mem_cons, not_or]
        exact ⟨fun h => hc h.symm, h2⟩
      · right
        refine ⟨c :: u, v, rfl, ?_, ?_⟩
        · simp only [List.mem_cons, not_or]
          exact ⟨fun h => hc h.symm, h2⟩
        · have hne : ¬ ((u.length : Int) == -1) = true := by simp
          simp only [Lib.index, e, h3, if_neg hne]
          simp
theorem quoted_append (a b : Str) : quoted (a ++ b) = quoted a ++ quoted b := by simp [quoted]
theorem quoted_none : ∀ {s : Str}, 39 ∉ s → quoted s = s
  | [], _ => rfl
  | c :: s, h => by
    simp only [List.mem_cons, not_or] at h
    have := quoted_none h.2
    have hc : c ≠ 39 := fun e => h.1 e.symm
    rw [show c :: s = [c] ++ s from rfl, quoted_append, this]
    simp [quoted, hc]
theorem replace_quoted : ∀ (fuel : Nat) (s : Str), s.length < fuel → Lib.replaceK [39] [39, 39] (Lib.countFrom [39] fuel s) s = quoted s
  | 0, s, h => by omega
  | fuel + 1, s, h => by
    rcases index_one s with ⟨h1, h2⟩ | ⟨u, v, rfl, h2, h3⟩
    · simp [Lib.countFrom, h1, Lib.replaceK, quoted_none h2]
    · have hne : ¬ ((u.length : Int) == -1) = true := by simp
      have hd : (u ++ 39 :: v).drop (u.length + 1) = v := by simp
      have ih := replace_quoted fuel v (by simp at h; omega)
      simp only [Lib.countFrom, h3, if_neg hne, Int.toNat_natCast, List.length_singleton, hd]
      rw [Nat.add_comm, Lib.replaceK_hit _ _ _ _ _ h3, List.length_singleton, hd, ih, quoted_append, quoted_none h2, show 39 :: v = [39] ++ v from rfl, quoted_append]
      simp [quoted]
theorem replaceAll_quoted (s : Str) : Lib.replaceAll s [39] [39, 39] = quoted s := by
  simp only [Lib.replaceAll, Lib.replace]
  rw [if_neg (by decide)]
  simp only [Lib.replaceNum]
  rw [if_pos (by omega)]
  exact replace_quoted _ s (by omega)

/-! ### calls -/
section
variable {P : Program} {Z : Seat} {w0 : World}

theorem Under.cell {c : Conf} (h : Under w0 c) {b o : Nat} {v : Value} (hv : w0.cell? ⟨b, o, none⟩ = some v) : c.w.cell? ⟨b, o, none⟩ = some v := by
  have hb : b < w0.heap.size := World.block_lt_of_cell? _ _ hv
  have := h.at' b hb
  unfold World.cell? at hv ⊢
  rw [this]
  exact hv

/-- A pure call that leaves what lay there. -/
theorem PureOK.of_calls {f : Nat} {ds : List PD} {out : List PD} (hfn : ∃ fn, P.funcs[Z.fi f]? = some fn ∧ (fn.name == "runtime.NumGoroutine") = false ∧ fn.body.isSome = true)
    (h : ∀ (c : Conf) (args : Array Value), Under w0 c → RepVs Z c.I ds args.toList → Calls P (Z.fi f) args c.w fun e w' => (∃ v, e = .returned v ∧ ∀ c' : Conf, c.I.le c'.I → RepR Z c' (outV out) v) ∧ Below c.w.heap.size c.w w') : PureOK P Z w0 f ds (.ret out) := by
  intro c args hU hH hargs
  obtain ⟨fn, h1, h2, h3⟩ := hfn
  refine .inl ⟨fn, h1, h2, h3, (h c args hU hargs).mono fun e w' ⟨⟨v, he, hv⟩, hb⟩ => ?_⟩
  have hs := (Step.world Z (c := ⟨c.g, c.w, emptyH⟩) (HeapOK.empty _ _) (w' := w') (imm' := c.g.imm) hb.size (fun b hb' => hb.block b hb') (fun _ _ => rfl) hb.os hb.tape hb.output).1
  refine ⟨{ c.g with imm := c.g.imm }, ?_, ?_⟩
  · obtain ⟨g, w, H⟩ := c
    simp only at hH
    subst hH
    exact hs
  · subst he
    simp only [POut.out, OutOK]
    refine hv _ ?_
    have := hs.ev.view
    exact this

theorem contains_pure {ρ : Shelf.Ren} (L : LaysM.n144 P ρ) (hf : ρ.f 144 = Z.fi 46) {W : World} (hW : W.ShapedOpen P) (hfn : ∃ fn, P.funcs[Z.fi 46]? = some fn ∧ (fn.name == "runtime.NumGoroutine") = false ∧ fn.body.isSome = true) {a b : Str} (ha : a.length < 4294967281) :
    PureOK P Z W 46 [.str a, .str b] (.ret [.bool (Lib.contains a b)]) := by
  obtain ⟨m, hm⟩ := L.s1_3 W hW
  refine PureOK.of_calls hfn fun c args hU hargs => ?_
  obtain ⟨vs, rfl⟩ : ∃ vs : List Value, args = vs.toArray := ⟨args.toList, by simp⟩
  simp only [RepVs, RepD] at hargs
  obtain ⟨v1, t1, e1, rfl, v2, t2, e2, rfl, rfl⟩ := hargs
  subst e2
  have e1' : vs = [.string ⟨⟨a⟩⟩, .string ⟨⟨b⟩⟩] := by simpa using e1
  subst e1'
  rw [← hf]
  refine (Any.strings_Contains { L with } ⟨⟨a⟩⟩ ⟨⟨b⟩⟩ m c.w (by simpa [ByteArray.size] using ha) (hU.cell hm)).mono ?_
  rintro e w' ⟨rfl, rfl⟩
  exact ⟨⟨_, rfl, fun c' _ => by simp only [outV, RepR, RepD]⟩, Below.refl _ _⟩

theorem quoted_pure {ρ : Shelf.Ren} (L : LaysM.n155 P ρ) (X : Builder.Extra P ρ) (hf : ρ.f 155 = Z.fi 96) {W : World} (hW : W.ShapedOpen P) (hfn : ∃ fn, P.funcs[Z.fi 96]? = some fn ∧ (fn.name == "runtime.NumGoroutine") = false ∧ fn.body.isSome = true) {a : Str} (ha : a.length ≤ 1000000000) :
    PureOK P Z W 96 [.str a, .str [39], .str [39, 39]] (.ret [.str (quoted a)]) := by
  obtain ⟨m, hm⟩ := L.s1_3 W hW
  refine PureOK.of_calls hfn fun c args hU hargs => ?_
  obtain ⟨vs, rfl⟩ : ∃ vs : List Value, args = vs.toArray := ⟨args.toList, by simp⟩
  simp only [RepVs, RepD] at hargs
  obtain ⟨v1, t1, e1, rfl, v2, t2, e2, rfl, v3, t3, e3, rfl, rfl⟩ := hargs
  subst e3
  subst e2
  have e1' : vs = [.string ⟨⟨a⟩⟩, .string ⟨⟨[39]⟩⟩, .string ⟨⟨[39, 39]⟩⟩] := by simpa using e1
  subst e1'
  rw [← hf]
  have hc := Lib.countB_mul_le ⟨⟨[39]⟩⟩ (by simp [ByteArray.size]) a.length ⟨⟨a⟩⟩ (by simp [ByteArray.size])
  have hs1 : (ByteArray.mk ⟨[39]⟩).size = 1 := rfl
  have hs2 : (ByteArray.mk ⟨[39, 39]⟩).size = 2 := rfl
  have hs3 : (ByteArray.mk ⟨a⟩).size = a.length := rfl
  rw [hs1, hs3] at hc
  refine (Any.strings_ReplaceAll { L with } X ⟨⟨a⟩⟩ ⟨⟨[39]⟩⟩ ⟨⟨[39, 39]⟩⟩ m c.w (by rw [hs3]; omega) (hU.cell hm) (by rw [hs1]; omega) (by rw [hs2, hs3]; omega)).mono ?_
  rintro e w' ⟨rfl, hb⟩
  refine ⟨⟨_, rfl, fun c' _ => ?_⟩, hb⟩
  simp only [outV, RepR, RepD]
  rw [replaceAll_quoted]

/-- Whether a slice without elements is nil cannot be known: both ways. -/
theorem SharedOK.split {f : Nat} {h : Heap} {pre : Id} {r : Out × Heap} (h1 : SharedOK P Z w0 f [.nils] h pre r) (h2 : SharedOK P Z w0 f [.emp] h pre r) : SharedOK P Z w0 f [.data (.list [])] h pre r := by
  intro c args hU hc hheap hfresh hargs
  simp only [RepRs, RepR, RepD] at hargs
  obtain ⟨v, t, e1, ⟨a, n, k, rfl, hn, _, _, _⟩, rfl⟩ := hargs
  simp only [List.length_nil] at hn
  subst hn
  cases a with
  | none => exact h1 c args hU hc hheap hfresh (by rw [e1]; simp only [RepRs, RepR]; exact ⟨_, _, rfl, ⟨k, rfl⟩, rfl⟩)
  | some a => exact h2 c args hU hc hheap hfresh (by rw [e1]; simp only [RepRs, RepR]; exact ⟨_, _, rfl, ⟨a, k, rfl⟩, rfl⟩)

/-- No calls. -/
def noCalls : Calls' := { pure := fun _ _ => none, shared := fun _ _ _ _ => none, dfr := fun _ _ _ _ _ => none }
theorem noCalls_sound : SoundC P Z w0 noCalls := ⟨fun f ds o h => by simp [noCalls] at h, fun f vs h pre o hh => by simp [noCalls] at hh, fun f vs u h pre o hh => by simp [noCalls] at hh, fun Y f vs h pre o hh => by simp [noCalls] at hh⟩

theorem clone92 {f : Nat} {fn : Func} {lv : Nat → List Nat} (hf : P.funcs[Z.fi 92]? = some fn) (hn : (fn.name == "runtime.NumGoroutine") = false) (hF : cFunc P Z lv fn = some F92) {l : List PD} (hl : ∀ d ∈ l, sizeD 1 d = true) (hb : l.length * 24 ≤ 140737488355328) (h : Heap) (pre : Id) :
    SharedOK P Z w0 92 [.data (.list l)] h pre (cloneR l pre h) := by
  have hY : ∀ r vs h id, noCalls.yield r vs h id = none := fun _ _ _ _ => rfl
  cases l with
  | nil =>
    refine SharedOK.split ?_ ?_
    · have : Body noCalls F92 [.nils] h pre (fun r => r = cloneR [] pre h) := by
        simp [Body, F92, cloneR]
      obtain ⟨n, r, h1, rfl⟩ := Body.run this
      exact body_sound noCalls_sound hY hf hn hF h1
    · have : Body noCalls F92 [.emp] h pre (fun r => r = cloneR [] pre h) := by
        simp [Body, F92, cloneR]
      obtain ⟨n, r, h1, rfl⟩ := Body.run this
      exact body_sound noCalls_sound hY hf hn hF h1
  | cons d l =>
    have : Body noCalls F92 [.data (.list (d :: l))] h pre (fun r => r = cloneR (d :: l) pre h) := by
      simp only [List.mem_cons, forall_eq_or_imp] at hl
      simp only [List.length_cons] at hb
      have h2 := hl.2
      simp [Body, F92, cloneR, hl.1, hb]
      rw [if_pos h2]
      simp [cloneR]
    obtain ⟨n, r, h1, rfl⟩ := Body.run this
    exact body_sound noCalls_sound hY hf hn hF h1
end
end Go.Proofs.YtkcbomohgbafoaaDoor
