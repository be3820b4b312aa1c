/- The specification of printed. -/
import Derived.Test.YtkcbomohgbafoaaDoorSa
set_option linter.unusedSimpArgs false
namespace Go.Proofs.YtkcbomohgbafoaaDoor
open Go

def aggName (op : Int) : Str := if op = 19 then [67, 79, 85, 78, 84] else if op = 20 then [83, 85, 77] else if op = 21 then [77, 73, 78] else [77, 65, 88]
def signOf (op : Int) : Str :=
  if op = 4 then [43] else if op = 5 then [45] else if op = 6 then [42] else if op = 7 then [47] else if op = 8 then [61] else if op = 9 then [60, 62]
  else if op = 10 then [60] else if op = 11 then [60, 61] else if op = 12 then [62] else if op = 13 then [62, 61] else if op = 14 then [65, 78, 68] else [79, 82]
def join (op : Int) (v : VX) (t n : Str) (l : List Str) : Str :=
  if op = 0 then litP v
  else if op = 1 then trimPre (t ++ [46] ++ n) [46]
  else if op = 2 then [40, 45] ++ l.getD 0 [] ++ [41]
  else if op = 3 then [40, 78, 79, 84, 32] ++ l.getD 0 [] ++ [41]
  else if op = 16 then [40] ++ l.getD 0 [] ++ [32, 73, 83, 32, 78, 85, 76, 76, 41]
  else if op = 17 then [40] ++ l.getD 0 [] ++ [32, 73, 83, 32, 78, 79, 84, 32, 78, 85, 76, 76, 41]
  else if op = 18 then [67, 79, 85, 78, 84, 40, 42, 41]
  else if 19 ≤ op then aggName op ++ [40] ++ l.getD 0 [] ++ [41]
  else [40] ++ l.getD 0 [] ++ [32] ++ signOf op ++ [32] ++ l.getD 1 [] ++ [41]
mutual
def prP : EX → Str
  | .mk op v t n args => join op v t n (prPs args)
def prPs : List EX → List Str
  | [] => []
  | e :: r => prP e :: prPs r
end
theorem prPs_eq : ∀ l : List EX, prPs l = l.map prP
  | [] => by simp [prPs]
  | e :: r => by simp [prPs, prPs_eq r]

/-- What the row of prints is: none, or one of our own. -/
def RowR (args : List EX) (i nx : Nat) (H : Heap) (r : RV) : Prop :=
  (i = 0 ∧ r = .full []) ∨ (0 < i ∧ ∃ k, k < nx ∧ 0 < k ∧ r = .acc ((prPs (args.take i)).map .str) [k] ∧ H [k] = some (.tok 9 1 i))

set_option maxHeartbeats 4000000 in
theorem printed_ok (C : Calls') (e : EX) (hlen : e.args.length ≤ 1000)
    (hop : ((argsOf e.op).2 = true ∧ (argsOf e.op).1 = e.args.length))
    (hstr : e.tbl.length ≤ 16 ∧ e.name.length ≤ 16 ∧ ∀ a ∈ e.args, (prP a).length ≤ 1000000)
    (h55 : e.op = 0 → C.pure 55 [e.v.pd] = some (.ret [.str (litP e.v)]))
    (h56 : ∀ s, C.pure 56 [.str s, .str [46]] = some (.ret [.str (trimPre s [46])]))
    (hr : ∀ a ∈ e.args, C.pure 22 [a.pd] = some (.ret [.str (prP a)])) :
    PSpec C F22 [e.pd] (.ret [.str (prP e)]) := by
  obtain ⟨op, v, tbl, name, args⟩ := e
  simp only [EX.op, EX.v, EX.tbl, EX.name, EX.args] at hlen hop hstr h55 hr
  simp [PSpec, Body, F22, EX.pd, EX.pds_len]
  refine Runs_loop_ind (fun m t => ∃ i nx : Nat, ∃ r3 H, i + m = args.length ∧ RowR args i nx H r3 ∧ 0 < nx ∧ H [0] = some (.box [.data (.int .i64 op), .data (.int .i64 v.kind), .data (.int .i64 v.n), .data (.str v.text), .data (.str tbl), .data (.str name), .data (.list (EX.pds args))]) ∧
     t = { env := upd (upd (upd (upd (upd (fun _ => none) 10 (.data (.int .i64 i))) 9 (.data (.int .i64 args.length))) 8 (.data (.list (EX.pds args)))) 3 r3) 1 (.ptr [0] 0), heap := H, pre := [], next := nx }) (n := args.length)
    ⟨0, _, .full [], _, by simp, .inl ⟨rfl, rfl⟩, ?_, ?_, rfl⟩ ?_
  · simp
  · simp
  rintro m t ⟨i, nx, r3, H, hi, hrow, hnx, hH, rfl⟩ ih
  simp
  refine Runs_split rfl ?_ ?_ <;> intro hc <;> simp at hc
  · obtain ⟨a, ha⟩ : ∃ a, args[i]? = some a := ⟨_, List.getElem?_eq_getElem hc⟩
    have ha' : (EX.pds args)[i]? = some a.pd := by rw [EX.pds_eq, List.getElem?_map, ha]; rfl
    have hra := hr a (List.mem_of_getElem? ha)
    have hi1 : IntKind.wrap .i64 ((i : Int) + 1) = ((i + 1 : Nat) : Int) := by rw [wrap_i64'] <;> omega
    have htake : prPs (args.take (i + 1)) = prPs (args.take i) ++ [prP a] := by
      rw [prPs_eq, prPs_eq, List.take_add_one, ha]; simp
    have hlp : (prPs (args.take i)).length = i := by rw [prPs_eq]; simp; omega
    obtain ⟨aop, av, atb, an, aargs⟩ := a
    simp only [EX.pd] at ha' hra
    rcases hrow with ⟨rfl, rfl⟩ | ⟨hi0, k, hk, hk0, rfl, hkt⟩
    · simp [hc, ha', mkAgg, hra, hi1, sizeD]
      refine ih (m - 1) _ (by omega) ⟨1, _, _, _, by omega, .inr ⟨by omega, nx + 1 + 4 + 1 + 1 + 1 + 1, by omega, by omega, ?_, ?_⟩, ?_, ?_, rfl⟩
      · simp at htake; simp [htake, prPs]
      · simp
      · omega
      · simp [upd, hH]
    · have hkn : k ≠ nx + 1 + 1 + 1 := by omega
      have hb : (i + 1) * 16 ≤ 140737488355328 := by omega
      simp [hc, ha', mkAgg, hra, hi1, hkt, hkn, hlp, hb, sizeD]
      refine ih (m - 1) _ (by omega) ⟨i + 1, _, _, _, by omega, .inr ⟨by omega, k, by omega, hk0, ?_, ?_⟩, ?_, ?_, rfl⟩
      · simp [htake]
      · simp
      · omega
      · simp [upd, hH]; omega
  · have : i = args.length := by omega
    subst this
    have htk : args.take args.length = args := List.take_length
    obtain ⟨l, hl3, hll⟩ : ∃ l, elems r3 = some (l.map .str) ∧ l = prPs args := by
      refine ⟨_, ?_, rfl⟩
      rcases hrow with ⟨h0, rfl⟩ | ⟨_, k, _, _, rfl, _⟩
      · have : args = [] := List.length_eq_zero_iff.mp h0
        subst this; simp [prPs]
      · simp [htk]
    simp only [VX.pd] at h55
    have hpr : prP (.mk op v tbl name args) = join op v tbl name l := by rw [hll, prP]
    rw [hpr]
    by_cases h0 : op = 0
    · subst h0
      simp [hH, h55, mkAgg, join]
    by_cases h1 : op = 1
    · subst h1
      have q1 : tbl.length + 1 ≤ 9223372036854775807 := by omega
      have q2 : tbl.length + 1 + name.length ≤ 9223372036854775807 := by omega
      simp [hH, h56, mkAgg, join, strOp, q1, q2]
    by_cases h18 : op = 18
    · subst h18
      simp [hH, mkAgg, join]
    have hl0 : ∀ x, x ∈ l → x.length ≤ 1000000 := by
      intro x hx
      rw [hll, prPs_eq] at hx
      obtain ⟨a, ha, rfl⟩ := List.mem_map.mp hx
      exact hstr.2.2 a ha
    have hlen1 : l.length = args.length := by rw [hll, prPs_eq]; simp
    have hone : args.length = 1 → ∃ x k, l = [x] ∧ x.length ≤ 1000000 ∧ r3 = .acc [.str x] [k] := by
      intro h1
      rw [h1] at hlen1
      obtain ⟨x, rfl⟩ := List.length_eq_one_iff.mp hlen1
      rcases hrow with ⟨h0, _⟩ | ⟨_, k, _, _, rfl, _⟩
      · omega
      · exact ⟨x, k, rfl, hl0 x (by simp), by rw [htk, ← hll]; rfl⟩
    have htwo : args.length = 2 → ∃ x y k, l = [x, y] ∧ x.length ≤ 1000000 ∧ y.length ≤ 1000000 ∧ r3 = .acc [.str x, .str y] [k] := by
      intro h1
      rw [h1] at hlen1
      obtain ⟨x, y, rfl⟩ : ∃ x y, l = [x, y] := by
        match l, hlen1 with
        | [x, y], _ => exact ⟨x, y, rfl⟩
      rcases hrow with ⟨h0, _⟩ | ⟨_, k, _, _, rfl, _⟩
      · omega
      · exact ⟨x, y, k, rfl, hl0 x (by simp), hl0 y (by simp), by rw [htk, ← hll]; rfl⟩
    clear hrow ih
    by_cases h2 : op = 2
    · subst h2
      obtain ⟨x, k, rfl, hx, rfl⟩ := hone (by have := hop.2; simp [argsOf] at this; omega)
      have q1 : 2 + x.length ≤ 9223372036854775807 := by omega
      have q2 : x.length ≤ 9223372036854775804 := by omega
      have q3 : 2 + x.length + 1 ≤ 9223372036854775807 := by omega
      have q4 : x.length + 1 ≤ 9223372036854775805 := by omega
      simp [hH, mkAgg, join, strOp, q1, q2, q3, q4]
    by_cases h3 : op = 3
    · subst h3
      obtain ⟨x, k, rfl, hx, rfl⟩ := hone (by have := hop.2; simp [argsOf] at this; omega)
      have q1 : 5 + x.length ≤ 9223372036854775807 := by omega
      have q2 : x.length ≤ 9223372036854775801 := by omega
      have q3 : 5 + x.length + 1 ≤ 9223372036854775807 := by omega
      have q4 : x.length + 1 ≤ 9223372036854775802 := by omega
      simp [hH, mkAgg, join, strOp, q1, q2, q3, q4]
    by_cases h16 : op = 16
    · subst h16
      obtain ⟨x, k, rfl, hx, rfl⟩ := hone (by have := hop.2; simp [argsOf] at this; omega)
      have q1 : 1 + x.length ≤ 9223372036854775807 := by omega
      have q2 : x.length ≤ 9223372036854775797 := by omega
      have q3 : 1 + x.length + 9 ≤ 9223372036854775807 := by omega
      have q4 : x.length + 9 ≤ 9223372036854775806 := by omega
      simp [hH, mkAgg, join, strOp, q1, q2, q3, q4]
    by_cases h17 : op = 17
    · subst h17
      obtain ⟨x, k, rfl, hx, rfl⟩ := hone (by have := hop.2; simp [argsOf] at this; omega)
      have q1 : 1 + x.length ≤ 9223372036854775807 := by omega
      have q2 : x.length ≤ 9223372036854775793 := by omega
      have q3 : 1 + x.length + 13 ≤ 9223372036854775807 := by omega
      have q4 : x.length + 13 ≤ 9223372036854775806 := by omega
      simp [hH, mkAgg, join, strOp, q1, q2, q3, q4]
    by_cases g19 : op = 19
    · subst g19
      obtain ⟨x, k, rfl, hx, rfl⟩ := hone (by have := hop.2; simp [argsOf] at this; omega)
      have q1 : 6 + x.length ≤ 9223372036854775807 := by omega
      have q2 : x.length ≤ 9223372036854775800 := by omega
      have w0 : IntKind.wrap .i64 0 = 0 := wrap_i64' (by omega) (by omega)
      simp [hH, mkAgg, join, strOp, q1, q2, aggName, w0]
    by_cases g20 : op = 20
    · subst g20
      obtain ⟨x, k, rfl, hx, rfl⟩ := hone (by have := hop.2; simp [argsOf] at this; omega)
      have q1 : 4 + x.length ≤ 9223372036854775807 := by omega
      have q2 : x.length ≤ 9223372036854775802 := by omega
      have w0 : IntKind.wrap .i64 1 = 1 := wrap_i64' (by omega) (by omega)
      simp [hH, mkAgg, join, strOp, q1, q2, aggName, w0]
    by_cases g21 : op = 21
    · subst g21
      obtain ⟨x, k, rfl, hx, rfl⟩ := hone (by have := hop.2; simp [argsOf] at this; omega)
      have q1 : 4 + x.length ≤ 9223372036854775807 := by omega
      have q2 : x.length ≤ 9223372036854775802 := by omega
      have w0 : IntKind.wrap .i64 2 = 2 := wrap_i64' (by omega) (by omega)
      simp [hH, mkAgg, join, strOp, q1, q2, aggName, w0]
    by_cases g22 : op = 22
    · subst g22
      obtain ⟨x, k, rfl, hx, rfl⟩ := hone (by have := hop.2; simp [argsOf] at this; omega)
      have q1 : 4 + x.length ≤ 9223372036854775807 := by omega
      have q2 : x.length ≤ 9223372036854775802 := by omega
      have w0 : IntKind.wrap .i64 3 = 3 := wrap_i64' (by omega) (by omega)
      simp [hH, mkAgg, join, strOp, q1, q2, aggName, w0]
    by_cases g4 : op = 4
    · subst g4
      obtain ⟨x, y, k, rfl, hx, hy, rfl⟩ := htwo (by have := hop.2; simp [argsOf] at this; omega)
      have q1 : 1 + x.length ≤ 9223372036854775807 := by omega
      have w0 : IntKind.wrap .i64 0 = 0 := wrap_i64' (by omega) (by omega)
      have q2 : x.length ≤ 9223372036854775805 := by omega
      have q3 : x.length ≤ 9223372036854775804 := by omega
      have q4 : x.length ≤ 9223372036854775803 := by omega
      have q5 : x.length + 3 + 1 + y.length ≤ 9223372036854775807 := by omega
      have q6 : x.length + (y.length + 1 + 1 + 1) ≤ 9223372036854775805 := by omega
      simp [hH, mkAgg, join, strOp, q1, q2, q3, q4, q5, q6, signOf, w0]
    by_cases g5 : op = 5
    · subst g5
      obtain ⟨x, y, k, rfl, hx, hy, rfl⟩ := htwo (by have := hop.2; simp [argsOf] at this; omega)
      have q1 : 1 + x.length ≤ 9223372036854775807 := by omega
      have w0 : IntKind.wrap .i64 1 = 1 := wrap_i64' (by omega) (by omega)
      have q2 : x.length ≤ 9223372036854775805 := by omega
      have q3 : x.length ≤ 9223372036854775804 := by omega
      have q4 : x.length ≤ 9223372036854775803 := by omega
      have q5 : x.length + 3 + 1 + y.length ≤ 9223372036854775807 := by omega
      have q6 : x.length + (y.length + 1 + 1 + 1) ≤ 9223372036854775805 := by omega
      simp [hH, mkAgg, join, strOp, q1, q2, q3, q4, q5, q6, signOf, w0]
    by_cases g6 : op = 6
    · subst g6
      obtain ⟨x, y, k, rfl, hx, hy, rfl⟩ := htwo (by have := hop.2; simp [argsOf] at this; omega)
      have q1 : 1 + x.length ≤ 9223372036854775807 := by omega
      have w0 : IntKind.wrap .i64 2 = 2 := wrap_i64' (by omega) (by omega)
      have q2 : x.length ≤ 9223372036854775805 := by omega
      have q3 : x.length ≤ 9223372036854775804 := by omega
      have q4 : x.length ≤ 9223372036854775803 := by omega
      have q5 : x.length + 3 + 1 + y.length ≤ 9223372036854775807 := by omega
      have q6 : x.length + (y.length + 1 + 1 + 1) ≤ 9223372036854775805 := by omega
      simp [hH, mkAgg, join, strOp, q1, q2, q3, q4, q5, q6, signOf, w0]
    by_cases g7 : op = 7
    · subst g7
      obtain ⟨x, y, k, rfl, hx, hy, rfl⟩ := htwo (by have := hop.2; simp [argsOf] at this; omega)
      have q1 : 1 + x.length ≤ 9223372036854775807 := by omega
      have w0 : IntKind.wrap .i64 3 = 3 := wrap_i64' (by omega) (by omega)
      have q2 : x.length ≤ 9223372036854775805 := by omega
      have q3 : x.length ≤ 9223372036854775804 := by omega
      have q4 : x.length ≤ 9223372036854775803 := by omega
      have q5 : x.length + 3 + 1 + y.length ≤ 9223372036854775807 := by omega
      have q6 : x.length + (y.length + 1 + 1 + 1) ≤ 9223372036854775805 := by omega
      simp [hH, mkAgg, join, strOp, q1, q2, q3, q4, q5, q6, signOf, w0]
    by_cases g8 : op = 8
    · subst g8
      obtain ⟨x, y, k, rfl, hx, hy, rfl⟩ := htwo (by have := hop.2; simp [argsOf] at this; omega)
      have q1 : 1 + x.length ≤ 9223372036854775807 := by omega
      have w0 : IntKind.wrap .i64 4 = 4 := wrap_i64' (by omega) (by omega)
      have q2 : x.length ≤ 9223372036854775805 := by omega
      have q3 : x.length ≤ 9223372036854775804 := by omega
      have q4 : x.length ≤ 9223372036854775803 := by omega
      have q5 : x.length + 3 + 1 + y.length ≤ 9223372036854775807 := by omega
      have q6 : x.length + (y.length + 1 + 1 + 1) ≤ 9223372036854775805 := by omega
      simp [hH, mkAgg, join, strOp, q1, q2, q3, q4, q5, q6, signOf, w0]
    by_cases g9 : op = 9
    · subst g9
      obtain ⟨x, y, k, rfl, hx, hy, rfl⟩ := htwo (by have := hop.2; simp [argsOf] at this; omega)
      have q1 : 1 + x.length ≤ 9223372036854775807 := by omega
      have w0 : IntKind.wrap .i64 5 = 5 := wrap_i64' (by omega) (by omega)
      have q2 : x.length ≤ 9223372036854775805 := by omega
      have q3 : x.length ≤ 9223372036854775803 := by omega
      have q4 : x.length ≤ 9223372036854775802 := by omega
      have q5 : x.length + 4 + 1 + y.length ≤ 9223372036854775807 := by omega
      have q6 : x.length + (y.length + 1 + 1 + 1 + 1) ≤ 9223372036854775805 := by omega
      simp [hH, mkAgg, join, strOp, q1, q2, q3, q4, q5, q6, signOf, w0]
    by_cases g10 : op = 10
    · subst g10
      obtain ⟨x, y, k, rfl, hx, hy, rfl⟩ := htwo (by have := hop.2; simp [argsOf] at this; omega)
      have q1 : 1 + x.length ≤ 9223372036854775807 := by omega
      have w0 : IntKind.wrap .i64 6 = 6 := wrap_i64' (by omega) (by omega)
      have q2 : x.length ≤ 9223372036854775805 := by omega
      have q3 : x.length ≤ 9223372036854775804 := by omega
      have q4 : x.length ≤ 9223372036854775803 := by omega
      have q5 : x.length + 3 + 1 + y.length ≤ 9223372036854775807 := by omega
      have q6 : x.length + (y.length + 1 + 1 + 1) ≤ 9223372036854775805 := by omega
      simp [hH, mkAgg, join, strOp, q1, q2, q3, q4, q5, q6, signOf, w0]
    by_cases g11 : op = 11
    · subst g11
      obtain ⟨x, y, k, rfl, hx, hy, rfl⟩ := htwo (by have := hop.2; simp [argsOf] at this; omega)
      have q1 : 1 + x.length ≤ 9223372036854775807 := by omega
      have w0 : IntKind.wrap .i64 7 = 7 := wrap_i64' (by omega) (by omega)
      have q2 : x.length ≤ 9223372036854775805 := by omega
      have q3 : x.length ≤ 9223372036854775803 := by omega
      have q4 : x.length ≤ 9223372036854775802 := by omega
      have q5 : x.length + 4 + 1 + y.length ≤ 9223372036854775807 := by omega
      have q6 : x.length + (y.length + 1 + 1 + 1 + 1) ≤ 9223372036854775805 := by omega
      simp [hH, mkAgg, join, strOp, q1, q2, q3, q4, q5, q6, signOf, w0]
    by_cases g12 : op = 12
    · subst g12
      obtain ⟨x, y, k, rfl, hx, hy, rfl⟩ := htwo (by have := hop.2; simp [argsOf] at this; omega)
      have q1 : 1 + x.length ≤ 9223372036854775807 := by omega
      have w0 : IntKind.wrap .i64 8 = 8 := wrap_i64' (by omega) (by omega)
      have q2 : x.length ≤ 9223372036854775805 := by omega
      have q3 : x.length ≤ 9223372036854775804 := by omega
      have q4 : x.length ≤ 9223372036854775803 := by omega
      have q5 : x.length + 3 + 1 + y.length ≤ 9223372036854775807 := by omega
      have q6 : x.length + (y.length + 1 + 1 + 1) ≤ 9223372036854775805 := by omega
      simp [hH, mkAgg, join, strOp, q1, q2, q3, q4, q5, q6, signOf, w0]
    by_cases g13 : op = 13
    · subst g13
      obtain ⟨x, y, k, rfl, hx, hy, rfl⟩ := htwo (by have := hop.2; simp [argsOf] at this; omega)
      have q1 : 1 + x.length ≤ 9223372036854775807 := by omega
      have w0 : IntKind.wrap .i64 9 = 9 := wrap_i64' (by omega) (by omega)
      have q2 : x.length ≤ 9223372036854775805 := by omega
      have q3 : x.length ≤ 9223372036854775803 := by omega
      have q4 : x.length ≤ 9223372036854775802 := by omega
      have q5 : x.length + 4 + 1 + y.length ≤ 9223372036854775807 := by omega
      have q6 : x.length + (y.length + 1 + 1 + 1 + 1) ≤ 9223372036854775805 := by omega
      simp [hH, mkAgg, join, strOp, q1, q2, q3, q4, q5, q6, signOf, w0]
    by_cases g14 : op = 14
    · subst g14
      obtain ⟨x, y, k, rfl, hx, hy, rfl⟩ := htwo (by have := hop.2; simp [argsOf] at this; omega)
      have q1 : 1 + x.length ≤ 9223372036854775807 := by omega
      have w0 : IntKind.wrap .i64 10 = 10 := wrap_i64' (by omega) (by omega)
      have q2 : x.length ≤ 9223372036854775805 := by omega
      have q3 : x.length ≤ 9223372036854775802 := by omega
      have q4 : x.length ≤ 9223372036854775801 := by omega
      have q5 : x.length + 5 + 1 + y.length ≤ 9223372036854775807 := by omega
      have q6 : x.length + (y.length + 1 + 1 + 1 + 1 + 1) ≤ 9223372036854775805 := by omega
      simp [hH, mkAgg, join, strOp, q1, q2, q3, q4, q5, q6, signOf, w0]
    by_cases g15 : op = 15
    · subst g15
      obtain ⟨x, y, k, rfl, hx, hy, rfl⟩ := htwo (by have := hop.2; simp [argsOf] at this; omega)
      have q1 : 1 + x.length ≤ 9223372036854775807 := by omega
      have w0 : IntKind.wrap .i64 11 = 11 := wrap_i64' (by omega) (by omega)
      have q2 : x.length ≤ 9223372036854775805 := by omega
      have q3 : x.length ≤ 9223372036854775803 := by omega
      have q4 : x.length ≤ 9223372036854775802 := by omega
      have q5 : x.length + 4 + 1 + y.length ≤ 9223372036854775807 := by omega
      have q6 : x.length + (y.length + 1 + 1 + 1 + 1) ≤ 9223372036854775805 := by omega
      simp [hH, mkAgg, join, strOp, q1, q2, q3, q4, q5, q6, signOf, w0]
    exfalso
    have h4 := hop.1
    have e : argsOf op = (2, decide (4 ≤ op) && decide (op < 16)) := by simp [argsOf, *]
    rw [e] at h4
    simp at h4
    omega

end Go.Proofs.YtkcbomohgbafoaaDoor
