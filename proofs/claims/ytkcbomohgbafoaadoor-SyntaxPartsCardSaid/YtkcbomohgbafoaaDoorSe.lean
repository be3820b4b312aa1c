/- What follows of a walk that finds no fault. -/
import Derived.Test.YtkcbomohgbafoaaDoorDa
import Derived.Test.YtkcbomohgbafoaaDoorSd
set_option linter.unusedSimpArgs false
set_option linter.unusedVariables false
namespace Go.Proofs.YtkcbomohgbafoaaDoor
open Go

section
variable {has : Str → Str → Bool}
theorem walk_inv {op : Int} {v : VX} {t n : Str} {args : List EX} {w l x : Int} (h : walkP has (.mk op v t n args) w l = .ok x) : l ≤ 12 ∧ w < 64 ∧ partP has (.mk op v t n args) = true ∧ walksP has args (w + 1) (l + 1) = .ok x := by
  simp only [walkP] at h
  split at h
  · simp at h
  · split at h
    · simp at h
    · split at h
      · simp at h
      · rename_i h1 h2 h3
        exact ⟨by omega, by omega, by simpa using h3, h⟩

mutual
theorem walk_mono : ∀ (e : EX) (w l x v m : Int), walkP has e w l = .ok x → v ≤ w → m ≤ l → walkP has e v m = .ok (v + (x - w))
  | .mk op vv t n args, w, l, x, v, m, h, hv, hm => by
    obtain ⟨h1, h2, h3, h4⟩ := walk_inv h
    have := walks_mono args (w + 1) (l + 1) x (v + 1) (m + 1) h4 (by omega) (by omega)
    simp only [walkP]
    rw [if_neg (by omega), if_neg (by omega), if_neg (by simp [h3]), this]
    congr 1
    omega
theorem walks_mono : ∀ (es : List EX) (w l x v m : Int), walksP has es w l = .ok x → v ≤ w → m ≤ l → walksP has es v m = .ok (v + (x - w))
  | [], w, l, x, v, m, h, hv, hm => by
    simp only [walksP, WR.ok.injEq] at h ⊢
    omega
  | e :: r, w, l, x, v, m, h, hv, hm => by
    simp only [walksP] at h ⊢
    cases hq : walkP has e w l with
    | ok w' =>
      rw [hq] at h
      simp only at h
      have h1 := walk_mono e w l w' v m hq hv hm
      have h2 := walks_mono r w' l x (v + (w' - w)) m h (by omega) hm
      rw [h1]
      simp only
      rw [h2]
      congr 1
      omega
    | pan w' d => rw [hq] at h; simp at h
end

theorem walks_mem : ∀ {es : List EX} {w l x : Int}, walksP has es w l = .ok x → w ≤ 64 → ∀ a ∈ es, ∃ u y, w ≤ u ∧ walkP has a u l = .ok y ∧ y ≤ x
  | [], w, l, x, h, hw, a, ha => by simp at ha
  | e :: r, w, l, x, h, hw, a, ha => by
    simp only [walksP] at h
    cases hq : walkP has e w l with
    | ok w' =>
      rw [hq] at h
      simp only at h
      have h1 := walkP_le has e w l w' hq
      have h2 := walksP_le has r w' l x (by omega) h
      rcases List.mem_cons.mp ha with rfl | ha
      · exact ⟨w, w', Int.le_refl _, hq, h2.1⟩
      · obtain ⟨u, y, k1, k2, k3⟩ := walks_mem h (by omega) a ha
        exact ⟨u, y, by omega, k2, k3⟩
    | pan w' d => rw [hq] at h; simp at h

mutual
theorem walk_pan : ∀ (e : EX) (w l x d : Int), walkP has e w l = .pan x d → d = 10 ∨ d = 3 ∨ d = 9
  | .mk op v t n args, w, l, x, d, h => by
    simp only [walkP] at h
    split at h
    · simp at h; omega
    · split at h
      · simp at h; omega
      · split at h
        · simp at h; omega
        · exact walks_pan args _ _ x d h
theorem walks_pan : ∀ (es : List EX) (w l x d : Int), walksP has es w l = .pan x d → d = 10 ∨ d = 3 ∨ d = 9
  | [], w, l, x, d, h => by simp [walksP] at h
  | e :: r, w, l, x, d, h => by
    simp only [walksP] at h
    cases hq : walkP has e w l with
    | ok w' => rw [hq] at h; exact walks_pan r _ _ x d h
    | pan w' d' => rw [hq] at h; simp at h; obtain ⟨_, rfl⟩ := h; exact walk_pan e _ _ _ _ hq
end
theorem check_zero {e : EX} (h : checkP has e = 0) : ∃ x, walkP has e 0 1 = .ok x := by
  simp only [checkP] at h
  cases hq : walkP has e 0 1 with
  | ok x => exact ⟨x, rfl⟩
  | pan x d =>
    rw [hq] at h
    simp only at h
    have := walk_pan e 0 1 x d hq
    omega
theorem check_of {e : EX} {w l x : Int} (h : walkP has e w l = .ok x) (hw : 0 ≤ w) (hl : 1 ≤ l) : checkP has e = 0 := by
  simp only [checkP, walk_mono e w l x 0 1 h hw hl]
/-- Each Arg of an expression that may be, may be. -/
theorem check_arg {e a : EX} (h : checkP has e = 0) (ha : a ∈ e.args) : checkP has a = 0 := by
  obtain ⟨x, hx⟩ := check_zero h
  obtain ⟨op, v, t, n, args⟩ := e
  obtain ⟨_, _, _, h4⟩ := walk_inv hx
  obtain ⟨u, y, k1, k2, _⟩ := walks_mem h4 (by omega) a ha
  exact check_of k2 (by omega) (by omega)
theorem check_part {e : EX} (h : checkP has e = 0) : partP has e = true := by
  obtain ⟨x, hx⟩ := check_zero h
  obtain ⟨op, v, t, n, args⟩ := e
  exact (walk_inv hx).2.2.1

theorem name_len {s : Str} (h : nameP has s = true) : 0 < s.length ∧ s.length ≤ 16 := by
  cases s with
  | nil => simp [nameP] at h
  | cons c s => simp [nameP] at h; simp; omega
theorem part_args {e : EX} (h : partP has e = true) : (argsOf e.op).2 = true ∧ (argsOf e.op).1 = e.args.length := by
  simp only [partP, Bool.and_eq_true, decide_eq_true_eq] at h
  exact h.1
theorem part_str {e : EX} (h : partP has e = true) : e.tbl.length ≤ 16 ∧ e.name.length ≤ 16 := by
  simp only [partP, Bool.and_eq_true] at h
  obtain ⟨_, h⟩ := h
  split at h
  · simp at h; simp [h.1]
  · split at h
    · simp only [Bool.and_eq_true, Bool.or_eq_true] at h
      refine ⟨?_, (name_len h.1.2).2⟩
      rcases h.2 with h | h
      · simp at h; simp [h]
      · exact (name_len h).2
    · simp at h; simp [h.2]
theorem part_val {e : EX} (h : partP has e = true) (h0 : e.op = 0) : valOK e.v = true := by
  simp only [partP, Bool.and_eq_true] at h
  obtain ⟨_, h⟩ := h
  rw [if_pos h0] at h
  simp at h
  exact h.1.2
end

theorem lit_len {v : VX} (hv : valOK v = true) (hn : I64 v.n) : (litP v).length ≤ 140 := by
  unfold I64 at hn
  have hd := dec_len v.n hn.1 hn.2
  simp only [valOK] at hv
  simp only [litP]
  split
  · simp [wNULL]
  · split
    · omega
    · split
      · split <;> simp [wFALSE, wTRUE]
      · rename_i h0 h1 h2
        rw [if_neg h0, if_neg h1, if_neg h2] at hv
        split at hv
        · simp at hv
          have := quoted_len v.text
          simp; omega
        · simp at hv
theorem val_truth {v : VX} (hv : valOK v = true) (hn : I64 v.n) (h2 : v.kind = 2) : v.n = 0 ∨ v.n = 1 := by
  unfold I64 at hn
  simp only [valOK, h2] at hv
  simp at hv
  have e1 : (2 : Int) ^ IntKind.u64.bits = 18446744073709551616 := by decide
  have e3 : IntKind.u64.signed = false := rfl
  have := hv.2
  simp only [IntKind.wrap, e1, e3, Bool.false_and, Bool.false_eq_true, if_false] at this
  omega

theorem join_len (op : Int) (v : VX) (t n : Str) (l : List Str) (hl : op = 0 → (litP v).length ≤ 140) (ht : t.length ≤ 16) (hn : n.length ≤ 16) : (join op v t n l).length ≤ 160 + (l.getD 0 []).length + (l.getD 1 []).length := by
  have h1 : (trimPre (t ++ [46] ++ n) [46]).length ≤ 33 := by
    unfold trimPre
    split
    · simp; omega
    · simp; omega
  have h2 : (aggName op).length ≤ 5 := by
    unfold aggName
    repeat' split
    all_goals decide
  have h3 : (signOf op).length ≤ 3 := by
    unfold signOf
    repeat' split
    all_goals decide
  obtain ⟨x, hx⟩ : ∃ x, l.getD 0 [] = x := ⟨_, rfl⟩
  obtain ⟨y, hy⟩ : ∃ y, l.getD 1 [] = y := ⟨_, rfl⟩
  obtain ⟨z, hz⟩ : ∃ z, trimPre (t ++ [46] ++ n) [46] = z := ⟨_, rfl⟩
  obtain ⟨p, hp⟩ : ∃ p, litP v = p := ⟨_, rfl⟩
  obtain ⟨q, hq⟩ : ∃ q, aggName op = q := ⟨_, rfl⟩
  obtain ⟨r, hr⟩ : ∃ r, signOf op = r := ⟨_, rfl⟩
  simp only [join, hx, hy, hz, hp, hq, hr]
  rw [hz] at h1; rw [hq] at h2; rw [hr] at h3; rw [hp] at hl
  by_cases o : op = 0
  · rw [if_pos o]; have := hl o; omega
  rw [if_neg o]
  by_cases o : op = 1
  · rw [if_pos o]; (try simp only [List.length_append, List.length_cons, List.length_nil]); omega
  rw [if_neg o]; clear o
  by_cases o : op = 2
  · rw [if_pos o]; (try simp only [List.length_append, List.length_cons, List.length_nil]); omega
  rw [if_neg o]; clear o
  by_cases o : op = 3
  · rw [if_pos o]; (try simp only [List.length_append, List.length_cons, List.length_nil]); omega
  rw [if_neg o]; clear o
  by_cases o : op = 16
  · rw [if_pos o]; (try simp only [List.length_append, List.length_cons, List.length_nil]); omega
  rw [if_neg o]; clear o
  by_cases o : op = 17
  · rw [if_pos o]; (try simp only [List.length_append, List.length_cons, List.length_nil]); omega
  rw [if_neg o]; clear o
  by_cases o : op = 18
  · rw [if_pos o]; (try simp only [List.length_append, List.length_cons, List.length_nil]); omega
  rw [if_neg o]; clear o
  by_cases o : 19 ≤ op
  · rw [if_pos o]; (try simp only [List.length_append, List.length_cons, List.length_nil]); omega
  rw [if_neg o]; clear o
  simp only [List.length_append, List.length_cons, List.length_nil]; omega

section
variable {has : Str → Str → Bool}
mutual
theorem print_len : ∀ (e : EX) (w l x : Int), walkP has e w l = .ok x → e.WF → ((prP e).length : Int) ≤ 200 * (x - w)
  | .mk op v t n args, w, l, x, h, hw => by
    obtain ⟨h1, h2, h3, h4⟩ := walk_inv h
    simp only [EX.WF] at hw
    have hs := part_str h3
    simp only [EX.tbl, EX.name] at hs
    have ha := print_lens args (w + 1) (l + 1) x h4 (by omega) hw.2.2.2.2.2.2.2
    have hj := join_len op v t n (prPs args) (fun h0 => lit_len (part_val h3 h0) hw.2.2.1) hs.1 hs.2
    have hx := walksP_le has args (w + 1) (l + 1) x (by omega) h4
    simp only [prP]
    have hb : ((prPs args).getD 0 []).length + ((prPs args).getD 1 []).length ≤ ((prPs args).map List.length).sum := by
      match prPs args with
      | [] => simp
      | [a] => simp
      | a :: b :: r => simp <;> omega
    omega
theorem print_lens : ∀ (es : List EX) (w l x : Int), walksP has es w l = .ok x → w ≤ 64 → EX.WFs es → ((((prPs es).map List.length).sum : Nat) : Int) ≤ 200 * (x - w)
  | [], w, l, x, h, hw, hf => by
    simp only [walksP, WR.ok.injEq] at h
    simp [prPs]; omega
  | e :: r, w, l, x, h, hw, hf => by
    simp only [walksP] at h
    simp only [EX.WFs] at hf
    cases hq : walkP has e w l with
    | ok w' =>
      rw [hq] at h
      simp only at h
      have h0 := walkP_le has e w l w' hq
      have h1 := print_len e w l w' hq hf.1
      have h2 := print_lens r w' l x h (by omega) hf.2
      simp only [prPs, List.map_cons, List.sum_cons]
      omega
    | pan w' d => rw [hq] at h; simp at h
end
theorem print_bound {e : EX} (h : checkP has e = 0) (hw : e.WF) : (prP e).length ≤ 12800 := by
  obtain ⟨x, hx⟩ := check_zero h
  have h1 := print_len e 0 1 x hx hw
  have h2 := walkP_le has e 0 1 x hx
  omega
end
theorem EX.WF_args {e : EX} (h : e.WF) : ∀ a ∈ e.args, a.WF := by
  obtain ⟨op, v, t, n, args⟩ := e
  simp only [EX.WF] at h
  exact EX.WFs_mem h.2.2.2.2.2.2.2

/-- An Arg's print stands in the whole's, and is shorter. -/
theorem print_arg {has : Str → Str → Bool} {e a : EX} (h : checkP has e = 0) (ha : a ∈ e.args) : ∃ u v : Str, prP e = u ++ prP a ++ v ∧ 0 < u.length + v.length := by
  have hp := part_args (check_part h)
  obtain ⟨op, vv, t, n, args⟩ := e
  simp only [EX.op, EX.args] at hp ha
  obtain ⟨hp1, hp2⟩ := hp
  simp only [prP]
  have h0 : ∀ k, args.length = k → 0 < k := fun k hk => by rw [← hk]; exact List.length_pos_of_mem ha
  by_cases o1 : op = 0 ∨ op = 1 ∨ op = 18
  · simp [argsOf, o1] at hp2
    have := h0 _ rfl
    omega
  have n0 : op ≠ 0 := fun e => o1 (.inl e)
  have n1 : op ≠ 1 := fun e => o1 (.inr (.inl e))
  have n18 : op ≠ 18 := fun e => o1 (.inr (.inr e))
  by_cases o2 : op = 2 ∨ op = 3 ∨ op = 16 ∨ op = 17 ∨ op = 19 ∨ op = 20 ∨ op = 21 ∨ op = 22
  · simp only [argsOf, if_neg o1, if_pos o2] at hp2
    obtain ⟨b, rfl⟩ := List.length_eq_one_iff.mp (show args.length = 1 by omega)
    simp only [List.mem_singleton] at ha
    subst ha
    simp only [prPs, List.getD_cons_zero]
    rcases o2 with rfl | rfl | rfl | rfl | o2
    · exact ⟨[40, 45], [41], by simp [join], by simp⟩
    · exact ⟨[40, 78, 79, 84, 32], [41], by simp [join], by simp⟩
    · exact ⟨[40], [32, 73, 83, 32, 78, 85, 76, 76, 41], by simp [join], by simp⟩
    · exact ⟨[40], [32, 73, 83, 32, 78, 79, 84, 32, 78, 85, 76, 76, 41], by simp [join], by simp⟩
    · refine ⟨aggName op ++ [40], [41], ?_, by simp⟩
      unfold join
      rw [if_neg n0, if_neg n1, if_neg (by omega), if_neg (by omega), if_neg (by omega), if_neg (by omega), if_neg n18, if_pos (by omega)]
      simp
  · simp only [argsOf, if_neg o1, if_neg o2, Bool.and_eq_true, decide_eq_true_eq] at hp1 hp2
    have hj : ∀ x y : Str, join op vv t n [x, y] = [40] ++ x ++ ([32] ++ signOf op ++ [32] ++ y ++ [41]) := by
      intro x y
      unfold join
      rw [if_neg n0, if_neg n1, if_neg (by omega), if_neg (by omega), if_neg (by omega), if_neg (by omega), if_neg n18, if_neg (by omega)]
      simp
    obtain ⟨x, y, rfl⟩ : ∃ x y, args = [x, y] := by
      match args, (show args.length = 2 by omega) with
      | [x, y], _ => exact ⟨x, y, rfl⟩
    simp only [List.mem_cons, List.mem_nil_iff, or_false] at ha
    simp only [prPs]
    rw [hj]
    rcases ha with rfl | rfl
    · exact ⟨_, _, rfl, by simp; omega⟩
    · exact ⟨[40] ++ prP x ++ ([32] ++ signOf op ++ [32]), [41], by simp, by simp⟩
end Go.Proofs.YtkcbomohgbafoaaDoor
/- The specifications of alive and of the law SyntaxParts. -/
set_option linter.unusedSimpArgs false
namespace Go.Proofs.YtkcbomohgbafoaaDoor
open Go

/-- The page's example. -/
def exA : EX := .mk 1 ⟨0, 0, []⟩ [] [97] []
def exB : EX := .mk 0 ⟨1, 1, []⟩ [] [] []
def exAB : EX := .mk 4 ⟨0, 0, []⟩ [] [] [exA, exB]
def stBegin : SX := ⟨8, [], [], [], [], [], [], [], [], [], [], [], [], 0⟩
def abText : Str := [40, 97, 32, 43, 32, 49, 41]

theorem alive_ok (C : Calls') (h9 : C.pure 9 [exAB.pd] = some (.ret [.str abText, .int .i64 0])) (h10 : C.pure 10 [.int .i64 0] = some (.ret [.int .i64 0])) (h20 : C.pure 20 [stBegin.pd] = some (.ret [.int .i64 0])) :
    PSpec C F8 [] (.ret [.bool true]) := by
  simp [exAB, exA, exB, EX.pd, EX.pds, abText] at h9
  simp [stBegin, SX.pd, SX.cells, colsPD, rowsPD, setsPD, ordsPD, EX.pds] at h20
  simp [PSpec, Body, F8, mkAgg, sizeD, h9, h10, h20, strOp]

def answer (has : Str → Str → Bool) (e : EX) : List PD := if checkP has e = 0 then [.str (prP e), .int .i64 0] else [.str [], .int .i64 (checkP has e)]

set_option maxHeartbeats 4000000 in
theorem parts_ok (C : Calls') (has : Str → Str → Bool) (e : EX) (hw : e.WF) (h8 : C.pure 8 [] = some (.ret [.bool true]))
    (h9 : ∀ a, a = e ∨ a ∈ e.args → C.pure 9 [a.pd] = some (.ret (answer has a))) (h10 : ∀ n, C.pure 10 [.int .i64 n] = some (.ret [.int .i64 n])) :
    PSpec C F3 [e.pd] (.ret [.bool true]) := by
  have h9e := h9 e (.inl rfl)
  have h9a := fun a ha => h9 a (.inr ha)
  have harg := fun (h : checkP has e = 0) a (ha : a ∈ e.args) => check_arg h ha
  have hprt := fun (h : checkP has e = 0) a (ha : a ∈ e.args) => print_arg h ha
  have hlen := fun (h : checkP has e = 0) => print_bound h hw
  obtain ⟨s, hs⟩ : ∃ s, prP e = s := ⟨_, rfl⟩
  rw [answer, hs] at h9e
  rw [hs] at hlen hprt
  obtain ⟨op, v, tbl, name, args⟩ := e
  simp only [EX.args] at harg hprt h9a
  have hargs : args.length ≤ 140737488351232 := by simp only [EX.WF] at hw; exact hw.2.2.2.2.2.2.1
  simp only [EX.pd] at h9e
  by_cases g : checkP has (.mk op v tbl name args) = 0
  · rw [if_pos g] at h9e
    have hlen := hlen g
    have harg := harg g
    have hprt := hprt g
    clear g
    simp [PSpec, Body, F3, EX.pd, h8, h9e, h10, mkAgg]
    refine Runs_loop_ind (fun m t => ∃ i nx : Nat, ∃ H, i + m = args.length ∧ H [0] = some (.box [.data (.int .i64 op), .data (.int .i64 v.kind), .data (.int .i64 v.n), .data (.str v.text), .data (.str tbl), .data (.str name), .data (.list (EX.pds args))]) ∧
      t = { env := upd (upd (upd (fun _ => none) 5 (.data (.int .i64 i))) 3 (.data (.str s))) 1 (.ptr [0] 0), heap := H, pre := [], next := nx }) (n := args.length) ⟨0, _, _, by simp, by simp [upd], rfl⟩ ?_
    rintro m t ⟨i, nx, H, hi, hH, rfl⟩ ih
    simp [hH, EX.pds_len]
    refine Runs_split rfl ?_ ?_ <;> intro hc <;> simp at hc
    · obtain ⟨a, ha⟩ : ∃ a, args[i]? = some a := ⟨_, List.getElem?_eq_getElem hc⟩
      have ha' : (EX.pds args)[i]? = some a.pd := by rw [EX.pds_eq, List.getElem?_map, ha]; rfl
      have hm := List.mem_of_getElem? ha
      have hi1 : IntKind.wrap .i64 ((i : Int) + 1) = ((i + 1 : Nat) : Int) := by rw [wrap_i64'] <;> omega
      have h9a := h9a a hm
      have hca := harg a hm
      obtain ⟨u, w, hu, huw⟩ := hprt a hm
      obtain ⟨t, ht⟩ : ∃ t, prP a = t := ⟨_, rfl⟩
      rw [answer, if_pos hca, ht] at h9a
      rw [ht] at hu
      obtain ⟨aop, av, atb, an, aargs⟩ := a
      simp only [EX.pd] at h9a ha'
      have hsl : s.length = u.length + t.length + w.length := by rw [hu]; simp; omega
      have hlt : ¬ ((s.length : Int) ≤ t.length) := by omega
      have hlt2 : ¬ (s.length ≤ t.length) := by omega
      simp [hH, ha', h9a, h10, mkAgg, hlt, hlt2]
      refine Runs_loop_ind (fun m2 x => ∃ k nx : Nat, ∃ b : Bool, k + m2 = s.length + 1 ∧ (u.length < k → b = true) ∧
        x = { env := upd (upd (upd (upd (upd (upd (fun _ => none) 9 (.data (.int .i64 k))) 8 (.data (.bool b))) 6 (.data (.str t))) 5 (.data (.int .i64 i))) 3 (.data (.str s))) 1 (.ptr [0] 0), heap := H, pre := [], next := nx }) (n := s.length + 1) ⟨0, _, false, by simp, by simp, rfl⟩ ?_
      rintro m2 x ⟨k, nx, b, hk, hb, rfl⟩ ih2
      have hw1 : IntKind.wrap .i64 ((k : Int) + t.length) = ((k + t.length : Nat) : Int) := by rw [wrap_i64'] <;> omega
      have hk1 : IntKind.wrap .i64 ((k : Int) + 1) = ((k + 1 : Nat) : Int) := by rw [wrap_i64'] <;> omega
      simp [hw1]
      refine Runs_split rfl ?_ ?_ <;> intro hc2 <;> simp at hc2
      · have hkl : k + t.length ≤ s.length := by omega
        cases b with
        | true =>
          simp [hk1]
          exact ih2 (m2 - 1) _ (by omega) ⟨k + 1, _, true, by omega, fun _ => rfl, rfl⟩
        | false =>
          have hku : k ≤ u.length := by
            cases Nat.lt_or_ge u.length k with
            | inl h => exact absurd (hb h) (by simp)
            | inr h => exact h
          have q1 : (0 : Int) ≤ (k : Int) + t.length := by omega
          have q2 : ((k : Int) + t.length).toNat = k + t.length := by omega
          simp [hw1, hk1, boundO, subS, hkl, strOp, q1, q2]
          refine ih2 (m2 - 1) _ (by omega) ⟨k + 1, _, _, by omega, fun h => ?_, rfl⟩
          have : k = u.length := by omega
          subst this
          rw [hu]
          simp
          rw [← List.append_assoc, show List.length u + List.length t = (u ++ t).length by simp, List.take_left, List.drop_left]
      · have hbt : b = true := hb (by omega)
        subst hbt
        simp [hi1]
        exact ih (m - 1) _ (by omega) ⟨i + 1, _, H, by omega, hH, rfl⟩
    · simp
  · rw [if_neg g] at h9e
    obtain ⟨d, hd⟩ : ∃ d, checkP has (.mk op v tbl name args) = d := ⟨_, rfl⟩
    rw [hd] at h9e g
    have hdb : (d == 0) = false := by simpa using g
    simp [PSpec, Body, F3, EX.pd, h8, h9e, h10, mkAgg, g, hdb, strOp]
end Go.Proofs.YtkcbomohgbafoaaDoor
