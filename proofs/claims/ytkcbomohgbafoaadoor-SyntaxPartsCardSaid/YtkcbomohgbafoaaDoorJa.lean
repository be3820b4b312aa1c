/- The functions of lex, value and syntax over the calls of the program: values, names, expressions. -/
import Derived.Test.YtkcbomohgbafoaaDoorBa
import Derived.Test.YtkcbomohgbafoaaDoorSe
import Derived.Test.YtkcbomohgbafoaaDoorKa
set_option linter.unusedSimpArgs false
set_option linter.unusedVariables false
namespace Go.Proofs.YtkcbomohgbafoaaDoor
open Go

def hasL : Str → Str → Bool := Lib.contains
/-- What the library's functions come to. -/
def B : Calls' :=
  { pure := fun f ds => match f, ds with
      | 46, [.str a, .str b] => if a.length < 4294967281 then some (.ret [.bool (hasL a b)]) else none
      | 96, [.str a, .str [39], .str [39, 39]] => if a.length ≤ 1000000000 then some (.ret [.str (quoted a)]) else none
      | _, _ => none
    shared := fun f vs h pre => match f, vs with
      | 92, [.data (.list l)] => if (∀ d ∈ l, sizeD 1 d = true) ∧ l.length * 24 ≤ 140737488355328 then some (cloneR l pre h) else none
      | _, _ => none
    dfr := fun _ _ _ _ _ => none }
noncomputable abbrev C : Calls' := lim G B

theorem c93 (ok : Bool) (d : Int) : C.pure 93 [.bool ok, .int .i64 d] = some (if ok then .ret [] else .pan (.iface 28 (.int .i64 d))) := lim_pure rfl (need_ok C ok d)
theorem c48 (c : UInt8) : C.pure 48 [.int .u8 c.toNat] = some (.ret [.bool (badByte c)]) := lim_pure rfl (name1_ok C c)
theorem c46 {a b : Str} (h : a.length < 4294967281) : C.pure 46 [.str a, .str b] = some (.ret [.bool (hasL a b)]) := lim_base rfl (by simp [B, h])
theorem c96 {a : Str} (h : a.length ≤ 1000000000) : C.pure 96 [.str a, .str [39], .str [39, 39]] = some (.ret [.str (quoted a)]) := lim_base rfl (by simp [B, h])
theorem c45 {s : Str} (h : s.length ≤ 9223372036854775807) : C.pure 45 [.str s] = some (.ret [.str (lowers s)]) := lim_pure rfl (lower_ok C s h)
theorem c47 {s : Str} (h : s.length ≤ 9223372036854775807) : C.pure 47 [.list (bytesD s), .func 48 [] []] = some (.ret [.bool ((bytesD s).any badD)]) :=
  lim_pure rfl (contains47_ok C _ _ _ _ badD (lim_pure rfl (index81_ok C _ 48 [] [] badD (by rw [bytesD_len]; exact h) rfl (fun d hd => by
    simp only [bytesD, List.mem_map] at hd
    obtain ⟨c, _, rfl⟩ := hd
    have := c48 c
    simpa [badD] using this) (fun d hd => by
    simp only [bytesD, List.mem_map] at hd
    obtain ⟨c, _, rfl⟩ := hd
    rfl))))
theorem allWords_le : allWords.length ≤ 1000 := by decide +kernel
theorem c18 {s : Str} (h : s.length ≤ 1000000000) : C.pure 18 [.str s] = some (.ret [.bool (keyword hasL s)]) :=
  lim_pure rfl (keyword_ok C hasL s h (c45 (by omega)) (fun b => c46 (by simp [lowers]; omega)) (fun b => c46 (Nat.lt_of_le_of_lt allWords_le (by omega))))
theorem c19 {s : Str} (h : s.length ≤ 9223372036854775807) : C.pure 19 [.str s] = some (.ret [.bool (nameP hasL s)]) :=
  lim_pure rfl (name_ok C hasL s h (fun h => c18 (by omega)) (c47 h))
theorem c19' {s : Str} (h : SL s) : C.pure 19 [.str s] = some (.ret [.bool (nameP hasL s)]) := c19 (by unfold SL at h; omega)
theorem c115 (op : Int) : C.pure 115 [.int .i64 op] = some (.ret [.int .i64 (argsOf op).1, .bool (argsOf op).2]) := lim_pure rfl (args_ok C op)
theorem c116 (v : VX) : C.pure 116 [v.pd] = some (.ret [.int .i64 (if valOK v then 0 else 9)]) := lim_pure rfl (val_ok C v)
theorem c82 {s : Str} (h : SL s) (b : Bool) : C.pure 82 [.str s, .bool b] = some (.ret [.bool (named? hasL s b)]) := lim_pure rfl (named_ok C hasL s b (c19' h))
theorem c83 (n m : Int) (b : Bool) (l : Int) : C.pure 83 [.int .i64 n, .int .i64 m, .bool b, .int .i64 l] = some (.ret [.bool (countP n m b l)]) := lim_pure rfl (count_ok C n m b l)
theorem c94 {e : EX} (h : e.WF) : C.pure 94 [e.pd] = some (.ret [.bool (partP hasL e)]) := by
  obtain ⟨op, v, t, n, a⟩ := e
  simp only [EX.WF] at h
  refine lim_pure rfl (part_ok C hasL _ ?_ (fun s hs => ?_) (c115 _) (c116 _))
  · have h1 := h.2.2.2.2.1; have h2 := h.2.2.2.2.2.1
    unfold SL at h1 h2
    simp only [EX.tbl, EX.name]; omega
  · simp only [EX.tbl, EX.name] at hs
    rcases hs with rfl | rfl
    · exact c19' h.2.2.2.2.1
    · exact c19' h.2.2.2.2.2.1

mutual
def EX.sz : EX → Nat
  | .mk _ _ _ _ a => EX.szs a + 1
def EX.szs : List EX → Nat
  | [] => 0
  | e :: r => EX.sz e + EX.szs r
end
theorem szs_mem : ∀ {l : List EX} {a : EX}, a ∈ l → a.sz ≤ EX.szs l
  | [], a, h => by simp at h
  | e :: r, a, h => by
    simp only [EX.szs]
    rcases List.mem_cons.mp h with rfl | h
    · omega
    · have := szs_mem h; omega
theorem arg_size {e a : EX} (h : a ∈ e.args) : a.sz < e.sz := by
  obtain ⟨op, v, t, n, l⟩ := e
  have := szs_mem h
  simp only [EX.args] at this
  simp only [EX.sz]
  omega
theorem bare_walk (r : WR) : bare r.out = true := by cases r <;> simp [WR.out, bare, noIds, noIdss]
theorem c54 : ∀ (k : Nat) (e : EX), e.sz < k → e.WF → ∀ (w level : Int) (h : Heap) (pre wid : Id), h wid = some (.box [.data (.int .i64 w)]) → ¬ pre <+: wid → 0 ≤ w → 0 ≤ level → level ≤ 1000 →
    (C.shared 54 [.ptr wid 0, .data e.pd, .data (.int .i64 level)] h pre).map (after pre) = some ((walkP hasL e w level).out, drop pre (upd h wid (.box [.data (.int .i64 (walkP hasL e w level).w)])))
  | 0, e, hk, _, _, _, _, _, _, _, _, _, _, _ => by omega
  | k + 1, e, hk, hW, w, level, h, pre, wid, hw, hp, hw0, hl0, hl1 => by
    have hlen : e.args.length ≤ 9223372036854775807 := by
      obtain ⟨op, v, t, n, a⟩ := e
      simp only [EX.WF] at hW
      have := hW.2.2.2.2.2.2.1
      simp only [EX.args]; omega
    refine lim_sub rfl (walk_ok C hasL e w level h pre wid hw hp hw0 hl0 hl1 hlen c93 (c94 hW) (fun a w' level' h' pre' ha k1 _ k3 k4 k5 k6 => ?_)) (bare_walk _)
    exact c54 k a (by have := arg_size ha; omega) (EX.WF_args hW a ha) w' level' h' pre' wid k5 k6 k1 k3 k4
theorem c53s (e x : Int) (h : Heap) (pre fid : Id) (hf : h fid = some (.box [.data (.int .i64 x)])) : (C.shared 53 [.data (.iface 28 (.int .i64 e)), .ptr fid 0] h pre).map (after pre) = some (.ret (.tup []), drop pre (upd h fid (.box [.data (.int .i64 e)]))) :=
  lim_sub rfl (told_some C e x h pre fid hf) rfl
theorem c53n (h : Heap) (pre fid : Id) : (C.shared 53 [.data .nilI, .ptr fid 0] h pre).map (after pre) = some (.ret (.tup []), drop pre h) := lim_sub rfl (told_none C h pre fid) rfl
theorem c52s (d x : Int) (h : Heap) (pre fid : Id) (hf : h fid = some (.box [.data (.int .i64 x)])) : C.dfr 52 [.ptr fid 0] (some (.iface 28 (.int .i64 d))) h pre = some (drop pre (upd h fid (.box [.data (.int .i64 d)]))) :=
  lim_rec rfl (ce1_some C d h pre fid fun pre' => c53s d x h pre' fid hf)
theorem c52n (h : Heap) (pre fid : Id) : C.dfr 52 [.ptr fid 0] none h pre = some (drop pre h) := lim_rec rfl (ce1_none C h pre fid fun pre' => c53n h pre' fid)
theorem c21 {e : EX} (h : e.WF) : C.pure 21 [e.pd] = some (.ret [.int .i64 (checkP hasL e)]) :=
  lim_pure rfl (check_ok C hasL e (fun h' pre wid hw hp => c54 _ e (Nat.lt_succ_self _) h 0 1 h' pre wid hw hp (by omega) (by omega) (by omega)) (fun d x h pre fid hf _ => c52s d x h pre fid hf) (fun h pre fid => c52n h pre fid))
theorem c10 (n : Int) : C.pure 10 [.int .i64 n] = some (.ret [.int .i64 n]) := lim_pure rfl (num_ok C n)
theorem c56 (s p : Str) : C.pure 56 [.str s, .str p] = some (.ret [.str (trimPre s p)]) := lim_pure rfl (trimPre_ok C s p (lim_pure rfl (trimPre0_ok C s p (lim_pure rfl (hasPre_ok C s p)))))
theorem c95 : ∀ (k : Nat) (n : Int), mu n < k → I64 n → C.pure 95 [.int .i64 n] = some (.ret [.str (dec n)])
  | 0, n, h, _ => by omega
  | k + 1, n, h, hn => lim_pure rfl (dec_ok C n hn.1 hn.2 fun m hm h1 h2 => c95 k m (by omega) ⟨h1, h2⟩)
theorem val_text {v : VX} (h : valOK v = true) : v.text.length ≤ 64 := by
  simp only [valOK] at h
  split at h
  · simp at h; simp [h.2]
  · split at h
    · simp at h; simp [h]
    · split at h
      · simp at h; simp [h.1]
      · split at h
        · simp at h; exact h.2
        · simp at h
theorem c55 {v : VX} (h : valOK v = true) (hn : I64 v.n) : C.pure 55 [v.pd] = some (.ret [.str (litP v)]) :=
  lim_pure rfl (lit_ok C v (val_truth h hn) (by have := val_text h; omega) (c95 _ v.n (Nat.lt_succ_self _) hn) (c96 (by have := val_text h; omega)))
theorem c22 : ∀ (k : Nat) (e : EX), e.sz < k → e.WF → checkP hasL e = 0 → C.pure 22 [e.pd] = some (.ret [.str (prP e)])
  | 0, e, hk, _, _ => by omega
  | k + 1, e, hk, hW, hc => by
    have hp := check_part hc
    have ha := part_args hp
    have hs := part_str hp
    have hlen : e.args.length ≤ 2 := by
      have h2 := ha.2
      unfold argsOf at h2
      split at h2
      · simp at h2; omega
      · split at h2
        · simp at h2; omega
        · simp at h2; omega
    refine lim_pure rfl (printed_ok C e (by omega) ha ⟨hs.1, hs.2, fun a h => ?_⟩ (fun h0 => c55 (part_val hp h0) ?_) (fun s => c56 s [46]) (fun a h => ?_))
    · have := print_bound (check_arg hc h) (EX.WF_args hW a h)
      omega
    · obtain ⟨op, v, t, n, a⟩ := e
      simp only [EX.WF] at hW
      exact hW.2.2.1
    · exact c22 k a (by have := arg_size h; omega) (EX.WF_args hW a h) (check_arg hc h)
theorem c9 {e : EX} (h : e.WF) : C.pure 9 [e.pd] = some (.ret (answer hasL e)) :=
  lim_pure rfl (print_ok C hasL prP e (c21 h) fun hc => c22 _ e (Nat.lt_succ_self _) h hc)
end Go.Proofs.YtkcbomohgbafoaaDoor
/- The functions of syntax over the calls of the program: statements. -/
set_option linter.unusedSimpArgs false
set_option linter.unusedVariables false
namespace Go.Proofs.YtkcbomohgbafoaaDoor
open Go

/-- A statement that Go can hold. -/
structure SX.WF (x : SX) : Prop where
  kind : I64 x.kind
  limit : I64 x.limit
  tbl : SL x.tbl
  key : SL x.key
  index : SL x.index
  join : SL x.join
  cols : x.cols.length ≤ 140737488351232 ∧ ∀ c ∈ x.cols, SL c.name ∧ I64 c.kind
  rows : x.rows.length ≤ 140737488351232 ∧ ∀ l ∈ x.rows, l.length ≤ 140737488351232 ∧ ∀ e ∈ l, e.WF
  sets : x.sets.length ≤ 140737488351232 ∧ ∀ t ∈ x.sets, SL t.name ∧ t.e.WF
  items : x.items.length ≤ 140737488351232 ∧ ∀ e ∈ x.items, e.WF
  on : x.on.length ≤ 140737488351232 ∧ ∀ e ∈ x.on, e.WF
  wher : x.wher.length ≤ 140737488351232 ∧ ∀ e ∈ x.wher, e.WF
  group : x.group.length ≤ 140737488351232 ∧ ∀ e ∈ x.group, e.WF
  order : x.order.length ≤ 140737488351232 ∧ ∀ o ∈ x.order, I64 o.n

theorem lists_wf {x : SX} (h : x.WF) : ∀ l ∈ listsOf x, l.length ≤ 140737488351232 ∧ ∀ e ∈ l, e.WF := by
  intro l hl
  simp only [listsOf, List.mem_append, List.mem_map, List.mem_cons, List.mem_nil_iff, or_false] at hl
  rcases hl with (hl | ⟨t, ht, rfl⟩) | rfl | rfl | rfl | rfl
  · exact h.rows.2 l hl
  · exact ⟨by simp, fun e he => by simp only [List.mem_singleton] at he; subst he; exact (h.sets.2 t ht).2⟩
  · exact h.items
  · exact h.on
  · exact h.wher
  · exact h.group

def pCol : PD → Bool
  | .agg [.str n, .int .i64 k, _] => ColP hasL n k
  | _ => false
def pRow : PD → Bool
  | .list l => decide ((l.length : Int) < 1) || decide ((l.length : Int) > 8)
  | _ => false
def pSet : PD → Bool
  | .agg (.str n :: _) => !nameP hasL n
  | _ => false
def pOrd : PD → Bool
  | .agg (.int .i64 n :: _) => decide (n < 1) || decide (n > 16)
  | _ => false

theorem c84 {l : List CX} (hl : l.length ≤ 140737488351232) (h : ∀ c ∈ l, SL c.name) : C.pure 84 [.list (colsPD l), .func 85 [] []] = some (.ret [.bool (l.any fun c => ColP hasL c.name c.kind)]) := by
  have := lim_pure (G := G) (B := B) (f := 84) rfl (contains84_ok C (colsPD l) 85 [] [] pCol (lim_pure rfl (index111_ok C _ 85 [] [] pCol (by rw [colsPD_len]; omega) rfl (fun d hd => by
    simp only [colsPD, List.mem_map] at hd
    obtain ⟨c, hc, rfl⟩ := hd
    exact lim_pure rfl (shape1_ok C hasL c.name c.kind (.bool c.nn) (c19' (h c hc)))) (fun d hd => by
    simp only [colsPD, List.mem_map] at hd
    obtain ⟨c, hc, rfl⟩ := hd
    exact ⟨_, rfl, rfl⟩))))
  rw [this]
  simp [colsPD, List.any_map, Function.comp_def, CX.pd, pCol]
theorem c86 {l : List (List EX)} (hl : l.length ≤ 140737488351232) : C.pure 86 [.list (rowsPD l), .func 87 [] []] = some (.ret [.bool (l.any fun r => decide ((r.length : Int) < 1) || decide ((r.length : Int) > 8))]) := by
  have := lim_pure (G := G) (B := B) (f := 86) rfl (contains86_ok C (rowsPD l) 87 [] [] pRow (lim_pure rfl (index112_ok C _ 87 [] [] pRow (by rw [rowsPD_len]; omega) rfl (fun d hd => by
    simp only [rowsPD, List.mem_map] at hd
    obtain ⟨c, hc, rfl⟩ := hd
    exact lim_pure rfl (shape2_ok C (EX.pds c))) (fun d hd => by
    simp only [rowsPD, List.mem_map] at hd
    obtain ⟨c, hc, rfl⟩ := hd
    rfl))))
  rw [this]
  simp [rowsPD, List.any_map, Function.comp_def, rowPD, pRow, EX.pds_len]
theorem c88 {l : List TX} (hl : l.length ≤ 140737488351232) (h : ∀ c ∈ l, SL c.name) : C.pure 88 [.list (setsPD l), .func 89 [] []] = some (.ret [.bool (l.any fun c => !nameP hasL c.name)]) := by
  have := lim_pure (G := G) (B := B) (f := 88) rfl (contains88_ok C (setsPD l) 89 [] [] pSet (lim_pure rfl (index113_ok C _ 89 [] [] pSet (by rw [setsPD_len]; omega) rfl (fun d hd => by
    simp only [setsPD, List.mem_map] at hd
    obtain ⟨c, hc, rfl⟩ := hd
    exact lim_pure rfl (shape3_ok C hasL c.name _ (c19' (h c hc)))) (fun d hd => by
    simp only [setsPD, List.mem_map] at hd
    obtain ⟨c, hc, rfl⟩ := hd
    obtain ⟨n, ⟨op, v, t, nm, a⟩⟩ := c
    exact ⟨_, rfl, rfl⟩))))
  rw [this]
  simp [setsPD, List.any_map, Function.comp_def, TX.pd, pSet]
theorem c90 {l : List OX} (hl : l.length ≤ 140737488351232) : C.pure 90 [.list (ordsPD l), .func 91 [] []] = some (.ret [.bool (l.any fun o => decide (o.n < 1) || decide (o.n > 16))]) := by
  have := lim_pure (G := G) (B := B) (f := 90) rfl (contains90_ok C (ordsPD l) 91 [] [] pOrd (lim_pure rfl (index114_ok C _ 91 [] [] pOrd (by rw [ordsPD_len]; omega) rfl (fun d hd => by
    simp only [ordsPD, List.mem_map] at hd
    obtain ⟨c, hc, rfl⟩ := hd
    exact lim_pure rfl (shape4_ok C c.n _)) (fun d hd => by
    simp only [ordsPD, List.mem_map] at hd
    obtain ⟨c, hc, rfl⟩ := hd
    exact ⟨_, rfl, rfl⟩))))
  rw [this]
  simp [ordsPD, List.any_map, Function.comp_def, OX.pd, pOrd]

theorem c49 {x : SX} (h : x.WF) : C.pure 49 [x.pd] = some (.ret [.bool (shapeP hasL x)]) :=
  lim_pure rfl (shape_ok C hasL x (c19' h.join) (c82 h.tbl) (c82 h.key) (c82 h.index) c83 (c84 h.cols.1 fun c hc => (h.cols.2 c hc).1) (c86 h.rows.1) (c88 h.sets.1 fun c hc => (h.sets.2 c hc).1) (c90 h.order.1))

theorem shape_rows {x : SX} (h : shapeP hasL x = true) : x.rows.length ≤ 100000 ∧ x.sets.length ≤ 100000 := by
  simp only [shapeP, Bool.and_eq_true] at h
  obtain ⟨⟨⟨⟨⟨⟨⟨⟨⟨⟨⟨⟨⟨⟨⟨⟨_, _⟩, _⟩, _⟩, _⟩, h1⟩, h2⟩, _⟩, _⟩, _⟩, _⟩, _⟩, _⟩, _⟩, _⟩, _⟩, _⟩ := h
  unfold countP at h1 h2
  constructor
  · cases hk : (x.kind == 4) <;> rw [hk] at h1 <;> simp only [if_true, if_false, Bool.false_eq_true, Bool.and_eq_true, decide_eq_true_eq] at h1 <;> omega
  · cases hk : (x.kind == 5) <;> rw [hk] at h2 <;> simp only [if_true, if_false, Bool.false_eq_true, Bool.and_eq_true, decide_eq_true_eq] at h2 <;> omega

theorem c92 {l : List (List EX)} (hl : l.length ≤ 100000) (h : Heap) (pre : Id) : C.shared 92 [.data (.list (rowsPD l))] h pre = some (cloneR (rowsPD l) pre h) := by
  refine lim_base_shared rfl ?_
  have h1 : ∀ d ∈ rowsPD l, sizeD 1 d = true := by
    intro d hd
    simp only [rowsPD, List.mem_map] at hd
    obtain ⟨c, _, rfl⟩ := hd
    rfl
  have h2 : (rowsPD l).length * 24 ≤ 140737488355328 := by rw [rowsPD_len]; omega
  simp only [B]
  rw [if_pos ⟨h1, h2⟩]

theorem c50 {x : SX} (hW : x.WF) (Y : Yld) (h : Heap) (pre r fid xid : Id) (v0 : Int) (hE : EH Y hasL x h pre r fid v0) (hx : h xid = some (.box (x.cells.map .data))) :
    ∃ h', C.iter Y 50 [.yld r, .ptr xid 0] h pre = some (.ret (.tup []), h') ∧ drop pre h' = drop pre (if firstBad hasL (listsOf x).flatten = 0 then h else badH h r fid (firstBad hasL (listsOf x).flatten)) := by
  refine lim_iterS rfl (check1_ok C Y x h _ pre r xid hx fun k => ?_)
  exact lim_iterA rfl (exprs_ok C Y hasL x h (pre ++ [k]) r fid v0 ⟨hE.hr, hE.hf, not_pre2 hE.hpr k, not_pre2 hE.hpf k, hE.hb1, hE.hb2, hE.hb3, hE.hY⟩ (fun h' pre' => c92 hE.hb1 h' pre')) rfl

theorem c20 {x : SX} (hW : x.WF) : C.pure 20 [x.pd] = some (.ret [.int .i64 (stmtP hasL x)]) :=
  lim_pure rfl (stmt_ok C hasL x shape_rows (fun l hl => by have := (lists_wf hW l hl).1; omega) (c49 hW) (fun l hl e he => c21 ((lists_wf hW l hl).2 e he)) (fun Y h pre r fid xid v0 hE hx _ => c50 hW Y h pre r fid xid v0 hE hx))

theorem wf_begin : stBegin.WF := by
  constructor <;> simp [stBegin, I64, SL]
theorem stmt_begin : stmtP hasL stBegin = 0 := by
  simp [stmtP, stBegin, shapeP, named?, countP, limOK, wants, listsOf, firstBad]
theorem wf_ab : exAB.WF := by simp [exAB, exA, exB, EX.WF, EX.WFs, I64, SL]
theorem name_a : nameP hasL [97] = true := by decide +kernel
theorem check_ab : checkP hasL exAB = 0 := by
  have h := name_a
  simp [checkP, exAB, exA, exB, walkP, walksP, partP, argsOf, EX.op, EX.args, EX.v, EX.tbl, EX.name, valOK, h]
theorem print_ab : prP exAB = abText := by
  have e : dec 1 = [49] := by simp [dec, digs]
  simp [prP, prPs, exAB, exA, exB, join, litP, e, signOf, trimPre, hasPre, abText]
theorem c8 : C.pure 8 [] = some (.ret [.bool true]) := by
  refine lim_pure rfl (alive_ok C ?_ (c10 0) ?_)
  · have := c9 wf_ab
    rw [answer, if_pos check_ab, print_ab] at this
    exact this
  · have := c20 wf_begin
    rw [stmt_begin] at this
    exact this
end Go.Proofs.YtkcbomohgbafoaaDoor
