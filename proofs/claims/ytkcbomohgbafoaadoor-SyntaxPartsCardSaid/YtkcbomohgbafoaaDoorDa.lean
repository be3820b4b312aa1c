/- How a law's arguments are read, and how the evaluator's answer becomes the machine's. -/
import Derived.Test.YtkcbomohgbafoaaDoorEf
import Derived.ChangeArms
import Derived.Below
import GoSem.ClaimJoined
import Derived.Test.YtkcbomohgbafoaaDoorSc
set_option linter.unusedVariables false
set_option linter.unusedSimpArgs false
namespace Go.Proofs.YtkcbomohgbafoaaDoor
open Go Go.RowKit

/-- Nobody writes what lies there at the start. -/
noncomputable def gh0 (w : World) : Gh :=
  { blk := fun _ => 0, tb := fun _ => 0, tcap := fun _ => 0, imm := fun b => match w.heap[b]? with | some (.cells c _ _) => c.size | _ => 0, D := fun _ => False,
    lp := fun _ => { state := .ready, pending := none, fn := 0, tmps := #[], params := #[], assign := .skip, body := .skip, defers := 0 } }
noncomputable def conf0 (w : World) : Conf := ⟨gh0 w, w, emptyH⟩
theorem view0 {w : World} {b o : Nat} {v : Value} (h : w.cell? ⟨b, o, none⟩ = some v) : (conf0 w).I b o = some v := by
  simp only [conf0, Conf.I, view, gh0]
  unfold World.cell? at h ⊢
  split at h
  · rename_i c t fr hb
    simp only [Option.isSome_none, Bool.false_eq_true, if_false] at h
    have hlt := (Array.getElem?_eq_some_iff.mp h).1
    simp only at hb
    simp only [hb, Option.isSome_none, Bool.false_eq_true, if_false, if_pos hlt]
    exact h
  · simp at h

theorem under0 (w : World) : Under w (conf0 w) := ⟨Nat.le_refl _, fun _ _ => rfl, fun i o h => by simp [conf0, emptyH] at h⟩

section
variable {P : Program} {Z : Seat} {G : IProg} {B : Calls'}
/-- What the evaluator tells of a law is what the machine comes to. -/
theorem door {W : World} (hG : Fits P Z G) (hB : SoundC P Z W B) {f : Nat} {F : IFunc} (hF : G f = some F) {ds : List PD} {args : Array Value} (hs : (lim G B).pure f ds = some (.ret [.bool true])) (hR : RepVs Z (conf0 W).I ds args.toList) :
    Calls P (Z.fi f) args W fun e W' => e = .returned (.bool true) ∧ Below W.heap.size W W' := by
  have hS := (lim_sound hG hB).pure f ds _ hs (conf0 W) args (under0 W) rfl hR
  obtain ⟨fn, lv, h1, h2, h3⟩ := hG f F hF
  have hb : fn.body.isSome = true := by
    unfold cFunc at h3
    simp only [Option.bind_eq_some_iff] at h3
    obtain ⟨c, hc, _⟩ := h3
    simp [hc]
  have key : ∀ e W', (∃ g', Step (conf0 W) ⟨g', W', emptyH⟩ ∧ OutOK Z ⟨g', W', emptyH⟩ (POut.ret [.bool true]).out e) → e = .returned (.bool true) ∧ Below W.heap.size W W' := by
    rintro e W' ⟨g', hst, ho⟩
    refine ⟨?_, hst.os, hst.tape, hst.output, hst.ev.size, fun k hk => (hst.frame k hk (fun i o h => by simp [conf0, emptyH] at h)).1⟩
    cases e <;> simp only [POut.out, OutOK, outV, RepR, RepD] at ho
    rw [ho]
  rcases hS with ⟨fn', k1, k2, k3, k4⟩ | ⟨v, w', k1, k2⟩
  · exact k4.mono key
  · rw [run_callFunc h1 h2 hb] at k1
    simp at k1

/-! ### reading -/
/-- The cells that a value of a type is. -/
def Shp (P : Program) : Nat → TypeId → List PD → Prop
  | 0, _, _ => False
  | n + 1, t, ds =>
    match P.underlying t with
    | some .bool => ∃ b, ds = [.bool b]
    | some (.int k) => ∃ m, ds = [.int k m] ∧ (Lit.int k m).wf = true
    | some .string => ∃ s : List UInt8, ds = [.str s] ∧ s.length ≤ 140737488351232
    | some (.slice e) => ∃ l, ds = [.list l] ∧ l.length ≤ 140737488351232 ∧ ∀ d ∈ l, match P.underlying e with | some (.struct _) => ∃ c, d = .agg c ∧ Shp P n e c | _ => Shp P n e [d]
    | some (.struct fs) => ∃ l : List (List PD), ds = l.flatten ∧ l.length = fs.size ∧ ∀ (i : Nat) (f : Field) (c : List PD), fs[i]? = some f → l[i]? = some c → Shp P n f.type c
    | _ => False

/-- Fields that lie one behind the other. -/
def rowOf (P : Program) : Nat → List Field → Option Nat
  | o, [] => some o
  | o, f :: r => if f.offset = o then rowOf P (o + P.cellsOf f.type) r else none
/-- Types of which all parts are plain and among these. -/
def closedB (P : Program) (S : List TypeId) : Bool :=
  S.all fun t => match P.underlying t with
    | some .bool | some (.int _) | some .string => true
    | some (.slice e) => S.contains e && decide (0 < P.cellsOf e) && decide (0 < P.bytesOf e)
    | some (.struct fs) => fs.toList.all (fun f => S.contains f.type) && rowOf P 0 fs.toList == some (P.cellsOf t)
    | _ => false

variable {H : Type} {enc : TypeId × Value → H} {W : World} {base : Nat} {spare : Nat → Bool} {held : Bool}

theorem repVs_append {I : IView} : ∀ {a b : List PD} {x y : List Value}, RepVs Z I a x → RepVs Z I b y → RepVs Z I (a ++ b) (x ++ y)
  | [], b, x, y, h, h' => by simp only [RepVs] at h; subst h; simpa using h'
  | d :: a, b, x, y, h, h' => by
    simp only [RepVs] at h
    obtain ⟨v, t, rfl, h1, h2⟩ := h
    simp only [List.cons_append, RepVs]
    exact ⟨v, _, rfl, h1, repVs_append h2 h'⟩

theorem rows_join {I : IView} {cs : List Value} {n : Nat} : ∀ (fs : List Field) (o m : Nat), rowOf P o fs = some m → (∀ f ∈ fs, ∃ ds, RepVs Z I ds ((cs.drop f.offset).take (P.cellsOf f.type)) ∧ Shp P n f.type ds) → m ≤ cs.length →
    ∃ l : List (List PD), l.length = fs.length ∧ RepVs Z I l.flatten ((cs.drop o).take (m - o)) ∧ o ≤ m ∧ ∀ (i : Nat) (f : Field) (c : List PD), fs[i]? = some f → l[i]? = some c → Shp P n f.type c
  | [], o, m, h, hf, hm => by
    simp only [rowOf, Option.some.injEq] at h; subst h
    exact ⟨[], rfl, by simp [RepVs], Nat.le_refl _, fun i f c h => by simp at h⟩
  | f :: r, o, m, h, hf, hm => by
    simp only [rowOf] at h
    split at h
    · rename_i e
      obtain ⟨l, h1, h2, h3, h4⟩ := rows_join r _ m h (fun g hg => hf g (by simp [hg])) hm
      obtain ⟨ds, h5, h6⟩ := hf f (by simp)
      refine ⟨ds :: l, by simp [h1], ?_, by omega, fun i g c hi hc => ?_⟩
      · rw [e] at h5
        have e2 : (cs.drop o).take (m - o) = (cs.drop o).take (P.cellsOf f.type) ++ (cs.drop (o + P.cellsOf f.type)).take (m - (o + P.cellsOf f.type)) := by
          rw [← List.drop_drop, show m - o = P.cellsOf f.type + (m - (o + P.cellsOf f.type)) by omega, List.take_add]
        rw [e2, List.flatten_cons]
        exact repVs_append h5 h2
      · cases i with
        | zero => simp at hi hc; subst hi; subst hc; exact h6
        | succ i => simp at hi hc; exact h4 i g c hi hc
    · simp at h

theorem cells_at {a : Addr} {n : Nat} {cs : List Value} (h : W.cells? base a n = some cs) : cs.length = n ∧ ∀ j u, cs[j]? = some u → W.cell? (a.add j) = some u := by
  unfold World.cells? at h
  split at h
  · refine ⟨by simpa using mapM_some_length h, fun j u hu => ?_⟩
    have hj : j < n := by have := mapM_some_length h; have := (List.getElem?_eq_some_iff.mp hu).1; simp at *; omega
    have := mapM_some_get h j j (by simp [hj])
    rw [this]; exact hu
  · simp at h

theorem weightsEach_get {p : Nat → Bool} : ∀ {ts : List TypeId} {ds : List (DataW H)}, (DataW.weightsEach P ts ds).all p = true → ∀ (i : Nat) (t : TypeId) (d : DataW H), ts[i]? = some t → ds[i]? = some d → (DataW.weights P t d).all p = true
  | [], ds, h, i, t, d, ht, hd => by simp at ht
  | t0 :: ts, [], h, i, t, d, ht, hd => by simp at hd
  | t0 :: ts, d0 :: ds, h, i, t, d, ht, hd => by
    simp only [DataW.weightsEach, List.all_append, Bool.and_eq_true] at h
    cases i with
    | zero => simp at ht hd; subst ht; subst hd; exact h.1
    | succ i => simp at ht hd; exact weightsEach_get h.2 i t d ht hd
theorem weightsAll_get {p : Nat → Bool} {e : TypeId} : ∀ {ds : List (DataW H)}, (DataW.weightsAll P e ds).all p = true → ∀ (i : Nat) (d : DataW H), ds[i]? = some d → (DataW.weights P e d).all p = true
  | [], h, i, d, hd => by simp at hd
  | d0 :: ds, h, i, d, hd => by
    simp only [DataW.weightsAll, List.all_append, Bool.and_eq_true] at h
    cases i with
    | zero => simp at hd; subst hd; exact h.1
    | succ i => simp at hd; exact weightsAll_get h.2 i d hd

theorem read_cells {S : List TypeId} (hS : closedB P S = true) : ∀ (fuel : Nat) (t : TypeId) (cs : List Value) (x : DataW H × List MemPlace), t ∈ S → DataW.trod enc P W base spare held fuel t cs = some x → (DataW.weights P t x.1).all (· ≤ reachBytes) = true →
    ∃ ds, RepVs Z (conf0 W).I ds cs ∧ Shp P fuel t ds ∧ (∀ u ∈ cs, u.oneCell' = true)
  | 0, t, cs, x, ht, h, hw => by simp [DataW.trod] at h
  | n + 1, t, cs, x, ht, h, hwt => by
    have hc := List.all_eq_true.mp hS t ht
    split at hc
    · rename_i hu
      obtain ⟨b, rfl, _⟩ := DataW.trod_bool hu h
      exact ⟨[.bool b], by simp [RepVs, RepD], by simp only [Shp, hu]; exact ⟨b, rfl⟩, by simp [Value.oneCell']⟩
    · rename_i k hu
      obtain ⟨m, rfl, _, hw⟩ := DataW.trod_int hu h
      exact ⟨[.int k m], by simp [RepVs, RepD], by simp only [Shp, hu]; exact ⟨m, rfl, hw⟩, by simp [Value.oneCell']⟩
    · rename_i hu
      obtain ⟨s, rfl, rfl, hw⟩ := DataW.trod_string hu h
      refine ⟨[.str s.data.toList], by simp [RepVs, RepD], ?_, by simp [Value.oneCell']⟩
      simp only [Shp, hu]
      refine ⟨_, rfl, ?_⟩
      simp only [DataW.weights, List.all_cons, List.all_nil, Bool.and_true, decide_eq_true_eq, reachBytes] at hwt
      exact of_decide_eq_true hwt
    · rename_i e hu
      simp only [Bool.and_eq_true, List.contains_iff_mem, decide_eq_true_eq] at hc
      obtain ⟨⟨he, h0⟩, hby⟩ := hc
      rcases DataW.trod_slice hu h with ⟨rfl, _⟩ | ⟨a, len, cap, elems, rest, n', hn, rfl, rfl, h1, h2, h3, h4, h5, _⟩
      · refine ⟨[.list []], ?_, by simp only [Shp, hu]; exact ⟨[], rfl, by simp, by simp⟩, by simp [Value.oneCell']⟩
        simp only [RepVs, RepD]
        exact ⟨_, [], rfl, ⟨none, 0, 0, rfl, rfl, by omega, Nat.le_refl _, by simp⟩, rfl⟩
      · simp only [Nat.add_right_cancel_iff] at hn
        subst hn
        simp only [DataW.weights, hu, List.all_cons, List.all_append, Bool.and_eq_true, decide_eq_true_eq, reachBytes] at hwt
        obtain ⟨hw1, hw2, _⟩ := hwt
        have hlen : len ≤ 140737488351232 := by
          have : elems.length + rest.length ≤ (elems.length + rest.length) * P.bytesOf e := Nat.le_mul_of_pos_right _ hby
          simp at hw1
          omega
        have hel : ∀ i, i < len → ∃ d : PD, (∃ v, RepD Z (conf0 W).I d v ∧ v.cells.size = P.cellsOf e ∧ ∀ j u, v.cells[j]? = some u → W.cell? (a.add (i * P.cellsOf e + j)) = some u) ∧ (match P.underlying e with | some (.struct _) => ∃ c, d = .agg c ∧ Shp P n e c | _ => Shp P n e [d]) := by
          intro i hi
          have hb := h5 i hi
          obtain ⟨y, hy⟩ : ∃ y, elems[i]? = some y := ⟨_, List.getElem?_eq_getElem (by omega)⟩
          rw [hy] at hb
          obtain ⟨cs', g1, g2⟩ := Option.bind_eq_some_iff.mp hb
          obtain ⟨ds, g3, g4, g5⟩ := read_cells hS n e cs' y he g2 (weightsAll_get hw2 i y.1 (by simp [hy]))
          obtain ⟨g6, g7⟩ := cells_at g1
          have g8 : ∀ j u, cs'[j]? = some u → W.cell? (a.add (i * P.cellsOf e + j)) = some u := by
            intro j u hu
            have := g7 j u hu
            have e3 : (a.add (i * P.cellsOf e)).add j = a.add (i * P.cellsOf e + j) := by
              unfold Addr.add
              by_cases q1 : i * P.cellsOf e = 0
              · simp [q1]
              · by_cases q2 : j = 0
                · simp [q1, q2]
                · simp [q1, q2, Nat.add_assoc]
            rw [← e3]; exact this
          have hl := RepVs.length Z g3
          by_cases hst : ∃ fs, P.underlying e = some (.struct fs)
          · obtain ⟨fs, hst⟩ := hst
            refine ⟨.agg ds, ⟨.agg cs'.toArray, ?_, by simpa [Value.cells] using g6, fun j u hu => g8 j u (by simpa [Value.cells] using hu)⟩, by simp only [hst]; exact ⟨ds, rfl, g4⟩⟩
            simp only [RepD]
            exact ⟨cs'.toArray, rfl, by simpa using g5, by simpa using g3⟩
          · have hone : ∃ d, ds = [d] := by
              cases n with
              | zero => simp [Shp] at g4
              | succ n =>
                simp only [Shp] at g4
                have hce := List.all_eq_true.mp hS e he
                split at g4
                · obtain ⟨b, rfl⟩ := g4; exact ⟨_, rfl⟩
                · obtain ⟨m, rfl, _⟩ := g4; exact ⟨_, rfl⟩
                · obtain ⟨s, rfl, _⟩ := g4; exact ⟨_, rfl⟩
                · obtain ⟨l, rfl, _⟩ := g4; exact ⟨_, rfl⟩
                · rename_i fs hq; exact absurd ⟨fs, hq⟩ hst
                · exact g4.elim
            obtain ⟨d, rfl⟩ := hone
            simp only [RepVs] at g3
            obtain ⟨v, t', rfl, g3, rfl⟩ := g3
            have hv1 := g5 v (by simp)
            have hvc : v.cells = #[v] := by cases v <;> simp [Value.oneCell'] at hv1 <;> rfl
            refine ⟨d, ⟨v, g3, by rw [hvc]; simpa using g6, fun j u hu => g8 j u (by rw [hvc] at hu; simpa using hu)⟩, ?_⟩
            split
            · rename_i fs hq; exact absurd ⟨fs, hq⟩ hst
            · exact g4
        have hall : ∀ k, k ≤ len → ∃ l : List PD, l.length = k ∧ (∀ i d, l[i]? = some d → (∃ v, RepD Z (conf0 W).I d v ∧ v.cells.size = P.cellsOf e ∧ ∀ j u, v.cells[j]? = some u → W.cell? (a.add (i * P.cellsOf e + j)) = some u) ∧ (match P.underlying e with | some (.struct _) => ∃ c, d = .agg c ∧ Shp P n e c | _ => Shp P n e [d])) := by
          intro k
          induction k with
          | zero => intro _; exact ⟨[], rfl, fun i d h => by simp at h⟩
          | succ k ih =>
            intro hk
            obtain ⟨l, g1, g2⟩ := ih (by omega)
            obtain ⟨d, g3⟩ := hel k (by omega)
            refine ⟨l ++ [d], by simp [g1], fun i d' hd' => ?_⟩
            rw [List.getElem?_append] at hd'
            split at hd'
            · exact g2 i d' hd'
            · rename_i hlt
              have : i = k := by
                have := (List.getElem?_eq_some_iff.mp hd').1
                simp at this; omega
              subst this
              rw [g1] at hd'
              simp at hd'
              subst hd'
              exact g3
        obtain ⟨l, g1, g2⟩ := hall len (Nat.le_refl _)
        refine ⟨[.list l], ?_, ?_, by simp [Value.oneCell']⟩
        · simp only [RepVs, RepD]
          refine ⟨_, [], rfl, ⟨_, _, _, rfl, g1.symm, by unfold maxLen at h3; omega, h2, ?_⟩, rfl⟩
          by_cases hl0 : l = []
          · exact .inl hl0
          · right
            have hlen0 : 0 < len := by rw [← g1]; exact List.length_pos_iff.mpr hl0
            have hsp : a.spot = none := by
              obtain ⟨d0, hd0⟩ : ∃ d, l[0]? = some d := ⟨_, List.getElem?_eq_getElem (by omega)⟩
              obtain ⟨⟨v, _, q2, q3⟩, _⟩ := g2 0 d0 hd0
              obtain ⟨u, hu⟩ : ∃ u, v.cells[0]? = some u := ⟨_, Array.getElem?_eq_getElem (by omega)⟩
              have := q3 0 u hu
              simp only [Nat.zero_mul, Nat.add_zero, Addr.add, if_true] at this
              unfold World.cell? at this
              split at this
              · split at this
                · simp at this
                · rename_i hq; simpa using hq
              · simp at this
            obtain ⟨ab, ao, as⟩ := a
            simp only at hsp
            subst hsp
            refine ⟨ab, ao, P.cellsOf e, rfl, ?_⟩
            have key : ∀ (m : List PD) (k : Nat), (∀ i d, m[i]? = some d → l[k + i]? = some d) → RepEls Z (conf0 W).I (P.cellsOf e) m ab (ao + k * P.cellsOf e) := by
              intro m
              induction m with
              | nil => intro k _; simp only [RepEls]
              | cons d m ih =>
                intro k hk
                simp only [RepEls]
                refine ⟨?_, ?_⟩
                · obtain ⟨⟨v, q1, q2, q3⟩, _⟩ := g2 k d (by have := hk 0 d (by simp); simpa using this)
                  refine ⟨v, q1, q2, fun j u hu => view0 ?_⟩
                  have := q3 j u hu
                  unfold Addr.add at this
                  split at this
                  · rename_i hz
                    rw [show ao + k * P.cellsOf e + j = ao by omega]; exact this
                  · simpa [Nat.add_assoc] using this
                · rw [show ao + k * P.cellsOf e + P.cellsOf e = ao + (k + 1) * P.cellsOf e by rw [Nat.add_mul]; omega]
                  exact ih (k + 1) fun i d' hd' => by have := hk (i + 1) d' (by simpa using hd'); rw [← this]; congr 1; omega
            have := key l 0 (fun i d h => by simpa using h)
            simpa using this
        · simp only [Shp, hu]
          refine ⟨l, rfl, by omega, fun d hd => ?_⟩
          obtain ⟨i, hi, rfl⟩ := List.getElem_of_mem hd
          exact (g2 i _ (List.getElem?_eq_getElem hi)).2
    · rename_i fs hu
      simp only [Bool.and_eq_true, List.all_eq_true, List.contains_iff_mem, beq_iff_eq] at hc
      obtain ⟨hc1, hc2⟩ := hc
      obtain ⟨xs, n', hn, rfl, h1, h2, h3⟩ := DataW.trod_struct hu h
      simp only [Nat.add_right_cancel_iff] at hn
      subst hn
      have hf : ∀ f ∈ fs.toList, ∃ ds, RepVs Z (conf0 W).I ds ((cs.drop f.offset).take (P.cellsOf f.type)) ∧ Shp P n f.type ds ∧ ∀ u ∈ (cs.drop f.offset).take (P.cellsOf f.type), u.oneCell' = true := by
        intro f hf
        obtain ⟨i, hi, rfl⟩ := List.getElem_of_mem hf
        have hi' : i < fs.size := by simpa using hi
        have e := h3 i fs[i] (by simp [hi'])
        obtain ⟨y, hy⟩ : ∃ y, xs[i]? = some y := ⟨_, List.getElem?_eq_getElem (by omega)⟩
        rw [hy] at e
        simp only [DataW.weights, hu] at hwt
        exact read_cells hS n _ _ _ (hc1 _ hf) (by simpa using e) (weightsEach_get hwt i _ _ (by simp [hi']) (by simp [hy]))
      obtain ⟨l, k1, k2, k3, k4⟩ := rows_join (cs := cs) (n := n) fs.toList 0 _ hc2 (fun f h => by obtain ⟨ds, q1, q2, _⟩ := hf f h; exact ⟨ds, q1, q2⟩) (Nat.le_of_eq h1.symm)
      refine ⟨l.flatten, ?_, ?_, ?_⟩
      · have : (cs.drop 0).take (P.cellsOf t - 0) = cs := by simp [h1.symm]
        rw [this] at k2; exact k2
      · simp only [Shp, hu]
        exact ⟨l, rfl, by simpa using k1, fun i f c hi hc => k4 i f c (by simpa using hi) hc⟩
      · have key : ∀ (fs : List Field) (o m : Nat), rowOf P o fs = some m → (∀ f ∈ fs, ∀ u ∈ (cs.drop f.offset).take (P.cellsOf f.type), u.oneCell' = true) → ∀ u ∈ (cs.drop o).take (m - o), u.oneCell' = true := by
          intro fs
          induction fs with
          | nil => intro o m h _ u hu; simp only [rowOf, Option.some.injEq] at h; subst h; simp at hu
          | cons f r ih =>
            intro o m h hq u hu
            simp only [rowOf] at h
            split at h
            · rename_i e
              by_cases hom : o + P.cellsOf f.type ≤ m
              · have e2 : (cs.drop o).take (m - o) = (cs.drop o).take (P.cellsOf f.type) ++ (cs.drop (o + P.cellsOf f.type)).take (m - (o + P.cellsOf f.type)) := by
                  rw [← List.drop_drop, show m - o = P.cellsOf f.type + (m - (o + P.cellsOf f.type)) by omega, List.take_add]
                rw [e2] at hu
                rcases List.mem_append.mp hu with hu | hu
                · exact hq f (by simp) u (by rw [e]; exact hu)
                · exact ih _ m h (fun g hg => hq g (by simp [hg])) u hu
              · exact hq f (by simp) u (by rw [e]; exact List.take_subset_take_left _ (by omega) hu)
            · simp at h
        have := key fs.toList 0 _ hc2 (fun f h u hu => by obtain ⟨_, _, _, q⟩ := hf f h; exact q u hu)
        intro u hu
        exact this u (by simp; rw [List.take_of_length_le (Nat.le_of_eq h1)]; exact hu)
    · simp at hc
end
end Go.Proofs.YtkcbomohgbafoaaDoor
/- Arguments of the API's types. -/
set_option linter.unusedVariables false
set_option linter.unusedSimpArgs false
namespace Go.Proofs.YtkcbomohgbafoaaDoor
open Go

def I64 (n : Int) : Prop := -9223372036854775808 ≤ n ∧ n ≤ 9223372036854775807
def SL (s : Str) : Prop := s.length ≤ 140737488351232
mutual
def EX.WF : EX → Prop
  | .mk op v t n a => I64 op ∧ I64 v.kind ∧ I64 v.n ∧ SL v.text ∧ SL t ∧ SL n ∧ a.length ≤ 140737488351232 ∧ EX.WFs a
def EX.WFs : List EX → Prop
  | [] => True
  | e :: r => EX.WF e ∧ EX.WFs r
end
theorem EX.WFs_mem : ∀ {l : List EX}, EX.WFs l → ∀ e ∈ l, e.WF
  | [], h, e, he => by simp at he
  | a :: l, h, e, he => by
    simp only [EX.WFs] at h
    rcases List.mem_cons.mp he with rfl | he
    · exact h.1
    · exact EX.WFs_mem h.2 e he

section
variable {P : Program}
theorem shp_int {n : Nat} {t : TypeId} {k : IntKind} {ds : List PD} (hu : P.underlying t = some (.int k)) (h : Shp P n t ds) : ∃ m, ds = [.int k m] ∧ (Lit.int k m).wf = true := by
  cases n with
  | zero => simp [Shp] at h
  | succ n => simpa only [Shp, hu] using h
theorem shp_i64 {n : Nat} {t : TypeId} {ds : List PD} (hu : P.underlying t = some (.int .i64)) (h : Shp P n t ds) : ∃ m, ds = [.int .i64 m] ∧ I64 m := by
  obtain ⟨m, h1, h2⟩ := shp_int hu h
  refine ⟨m, h1, ?_⟩
  simp [Lit.wf, IntKind.signed, IntKind.bits, IntKind.min, IntKind.max] at h2
  unfold I64
  omega
theorem shp_bool {n : Nat} {t : TypeId} {ds : List PD} (hu : P.underlying t = some .bool) (h : Shp P n t ds) : ∃ b, ds = [.bool b] := by
  cases n with
  | zero => simp [Shp] at h
  | succ n => simpa only [Shp, hu] using h
theorem shp_str {n : Nat} {t : TypeId} {ds : List PD} (hu : P.underlying t = some .string) (h : Shp P n t ds) : ∃ s, ds = [.str s] ∧ SL s := by
  cases n with
  | zero => simp [Shp] at h
  | succ n => simpa only [Shp, hu, SL] using h
theorem shp_struct {n : Nat} {t : TypeId} {fs : Array Field} {ts : List TypeId} {ds : List PD} (hu : P.underlying t = some (.struct fs)) (ht : fs.toList.map (·.type) = ts) (h : Shp P n t ds) :
    ∃ m, n = m + 1 ∧ ∃ l : List (List PD), ds = l.flatten ∧ l.length = ts.length ∧ ∀ (i : Nat) (t : TypeId) (c : List PD), ts[i]? = some t → l[i]? = some c → Shp P m t c := by
  cases n with
  | zero => simp [Shp] at h
  | succ n =>
    simp only [Shp, hu] at h
    obtain ⟨l, h1, h2, h3⟩ := h
    subst ht
    refine ⟨n, rfl, l, h1, by simpa using h2, fun i t c hi hc => ?_⟩
    simp only [List.getElem?_map, Option.map_eq_some_iff] at hi
    obtain ⟨f, hf, rfl⟩ := hi
    exact h3 i f c (by simpa using hf) hc
theorem shp_rows {n : Nat} {t e : TypeId} {fs : Array Field} {ds : List PD} (hu : P.underlying t = some (.slice e)) (he : P.underlying e = some (.struct fs)) (h : Shp P n t ds) :
    ∃ m, n = m + 1 ∧ ∃ l, ds = [.list l] ∧ l.length ≤ 140737488351232 ∧ ∀ d ∈ l, ∃ c, d = .agg c ∧ Shp P m e c := by
  cases n with
  | zero => simp [Shp] at h
  | succ n =>
    simp only [Shp, hu, he] at h
    exact ⟨n, rfl, h⟩
/-- All of a list, chosen. -/
theorem choose_all {α : Type} {Q : α → PD → Prop} : ∀ (l : List PD), (∀ d ∈ l, ∃ a, Q a d) → ∃ as : List α, as.length = l.length ∧ ∀ (i : Nat) (a : α) (d : PD), as[i]? = some a → l[i]? = some d → Q a d
  | [], h => ⟨[], rfl, fun i a d h => by simp at h⟩
  | d :: l, h => by
    obtain ⟨a, ha⟩ := h d (by simp)
    obtain ⟨as, h1, h2⟩ := choose_all l fun d hd => h d (by simp [hd])
    refine ⟨a :: as, by simp [h1], fun i b e hb he => ?_⟩
    cases i with
    | zero => simp at hb he; subst hb; subst he; exact ha
    | succ i => simp at hb he; exact h2 i b e hb he

/-- The types of an expression. -/
structure ExT (P : Program) (tE tL : TypeId) : Prop where
  has : ∃ (tI tV tS : TypeId) (fs vs : Array Field), P.underlying tE = some (.struct fs) ∧ fs.toList.map (·.type) = [tI, tV, tS, tS, tL] ∧ P.underlying tV = some (.struct vs) ∧ vs.toList.map (·.type) = [tI, tI, tS] ∧
    P.underlying tI = some (.int .i64) ∧ P.underlying tS = some .string ∧ P.underlying tL = some (.slice tE)

theorem shp_val {tV tI tS : TypeId} {vs : Array Field} (h3 : P.underlying tV = some (.struct vs)) (h4 : vs.toList.map (·.type) = [tI, tI, tS]) (h5 : P.underlying tI = some (.int .i64)) (h6 : P.underlying tS = some .string) {n : Nat} {ds : List PD} (h : Shp P n tV ds) :
    ∃ v : VX, ds = [.int .i64 v.kind, .int .i64 v.n, .str v.text] ∧ I64 v.kind ∧ I64 v.n ∧ SL v.text := by
  obtain ⟨m, _, l, rfl, hl, hs⟩ := shp_struct h3 h4 h
  match l, hl with
  | [a, b, c], _ =>
    obtain ⟨x, rfl, hx⟩ := shp_i64 h5 (hs 0 _ a rfl rfl)
    obtain ⟨y, rfl, hy⟩ := shp_i64 h5 (hs 1 _ b rfl rfl)
    obtain ⟨z, rfl, hz⟩ := shp_str h6 (hs 2 _ c rfl rfl)
    exact ⟨⟨x, y, z⟩, rfl, hx, hy, hz⟩

theorem shp_expr {tE tL : TypeId} (hT : ExT P tE tL) : ∀ (n : Nat) (ds : List PD), Shp P n tE ds → ∃ e : EX, ds = e.cells ∧ e.WF := by
  obtain ⟨tI, tV, tS, fs, vs, h1, h2, h3, h4, h5, h6, h7⟩ := hT
  intro n
  induction n using Nat.strongRecOn with
  | _ n ih =>
    intro ds h
    obtain ⟨m, rfl, l, rfl, hl, hs⟩ := shp_struct h1 h2 h
    match l, hl with
    | [a, b, c, d, f], _ =>
      obtain ⟨op, rfl, hop⟩ := shp_i64 h5 (hs 0 _ a rfl rfl)
      obtain ⟨v, rfl, hv1, hv2, hv3⟩ := shp_val h3 h4 h5 h6 (hs 1 _ b rfl rfl)
      obtain ⟨t, rfl, ht⟩ := shp_str h6 (hs 2 _ c rfl rfl)
      obtain ⟨nm, rfl, hn⟩ := shp_str h6 (hs 3 _ d rfl rfl)
      obtain ⟨k, hk, r, rfl, hr, hrs⟩ := shp_rows h7 h1 (hs 4 _ f rfl rfl)
      obtain ⟨as, g1, g2⟩ := choose_all (Q := fun (e : EX) d => d = e.pd ∧ e.WF) r (fun d hd => by
        obtain ⟨c, rfl, hc⟩ := hrs d hd
        obtain ⟨e, rfl, he⟩ := ih k (by omega) c hc
        exact ⟨e, (EX.pd_cells e).symm, he⟩)
      have er : r = EX.pds as := by
        rw [EX.pds_eq]
        apply List.ext_getElem?
        intro i
        rw [List.getElem?_map]
        by_cases hi : i < r.length
        · obtain ⟨d, hd⟩ : ∃ d, r[i]? = some d := ⟨_, List.getElem?_eq_getElem hi⟩
          obtain ⟨e, he⟩ : ∃ e, as[i]? = some e := ⟨_, List.getElem?_eq_getElem (by omega)⟩
          rw [hd, he, (g2 i e d he hd).1]; rfl
        · rw [List.getElem?_eq_none (by omega), List.getElem?_eq_none (by omega)]; rfl
      have hw : ∀ (l : List EX), (∀ e ∈ l, e.WF) → EX.WFs l := by
        intro l
        induction l with
        | nil => intro _; simp only [EX.WFs]
        | cons e l ih => intro h; simp only [EX.WFs]; exact ⟨h e (by simp), ih fun e he => h e (by simp [he])⟩
      refine ⟨.mk op v t nm as, by simp [EX.cells, er], ?_⟩
      simp only [EX.WF]
      refine ⟨hop, hv1, hv2, hv3, ht, hn, by omega, hw as fun e he => ?_⟩
      obtain ⟨i, hi, rfl⟩ := List.getElem_of_mem he
      obtain ⟨d, hd⟩ : ∃ d, r[i]? = some d := ⟨_, List.getElem?_eq_getElem (by omega)⟩
      exact (g2 i _ d (List.getElem?_eq_getElem hi) hd).2
end
end Go.Proofs.YtkcbomohgbafoaaDoor
