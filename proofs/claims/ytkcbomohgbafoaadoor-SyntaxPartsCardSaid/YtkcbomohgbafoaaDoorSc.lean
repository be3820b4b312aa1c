/- Statements as data, and what shape says of them. -/
import Derived.Test.YtkcbomohgbafoaaDoorSb
set_option linter.unusedSimpArgs false
namespace Go.Proofs.YtkcbomohgbafoaaDoor
open Go

structure CX where
  name : Str
  kind : Int
  nn : Bool
structure TX where
  name : Str
  e : EX
structure OX where
  n : Int
  desc : Bool
structure SX where
  kind : Int
  tbl : Str
  cols : List CX
  key : Str
  index : Str
  rows : List (List EX)
  sets : List TX
  items : List EX
  join : Str
  on : List EX
  wher : List EX
  group : List EX
  order : List OX
  limit : Int
def CX.pd (c : CX) : PD := .agg [.str c.name, .int .i64 c.kind, .bool c.nn]
def EX.cells : EX → List PD
  | .mk op v t n a => [.int .i64 op, .int .i64 v.kind, .int .i64 v.n, .str v.text, .str t, .str n, .list (EX.pds a)]
theorem EX.pd_cells (e : EX) : e.pd = .agg e.cells := by cases e; simp [EX.pd, EX.cells]
def TX.pd (t : TX) : PD := .agg (.str t.name :: t.e.cells)
def OX.pd (o : OX) : PD := .agg [.int .i64 o.n, .bool o.desc]
def rowPD (l : List EX) : PD := .list (EX.pds l)
def colsPD (l : List CX) : List PD := l.map CX.pd
def rowsPD (l : List (List EX)) : List PD := l.map rowPD
def setsPD (l : List TX) : List PD := l.map TX.pd
def ordsPD (l : List OX) : List PD := l.map OX.pd
theorem colsPD_len (l : List CX) : (colsPD l).length = l.length := by simp [colsPD]
theorem rowsPD_len (l : List (List EX)) : (rowsPD l).length = l.length := by simp [rowsPD]
theorem setsPD_len (l : List TX) : (setsPD l).length = l.length := by simp [setsPD]
theorem ordsPD_len (l : List OX) : (ordsPD l).length = l.length := by simp [ordsPD]
def SX.cells (x : SX) : List PD := [.int .i64 x.kind, .str x.tbl, .list (colsPD x.cols), .str x.key, .str x.index, .list (rowsPD x.rows), .list (setsPD x.sets), .list (EX.pds x.items), .str x.join, .list (EX.pds x.on), .list (EX.pds x.wher), .list (EX.pds x.group), .list (ordsPD x.order), .int .i64 x.limit]
def SX.pd (x : SX) : PD := .agg x.cells

def limOK (x : SX) : Bool := if x.kind = 7 then decide (-1 ≤ x.limit) && decide (x.limit ≤ 2147483648) else decide (x.limit = 0)
def wants (k : Int) : Bool := k == 5 || k == 6 || k == 7
def shapeP (has : Str → Str → Bool) (x : SX) : Bool :=
  named? has x.tbl (decide (x.kind ≤ 7)) && named? has x.key (x.kind == 1 || x.kind == 2) && named? has x.index (x.kind == 2) && (x.join == [] || (x.kind == 7 && nameP has x.join)) &&
  countP x.cols.length 8 (x.kind == 1) 1 && countP x.rows.length 16 (x.kind == 4) 1 && countP x.sets.length 8 (x.kind == 5) 1 && countP x.items.length 16 (x.kind == 7) 1 &&
  countP x.on.length 1 (!x.join.isEmpty) 1 && countP x.wher.length 1 (wants x.kind) 0 && countP x.group.length 1 (x.kind == 7) 0 && countP x.order.length 8 (x.kind == 7) 0 &&
  limOK x &&
  !(x.cols.any fun c => ColP has c.name c.kind) && !(x.rows.any fun l => decide ((l.length : Int) < 1) || decide ((l.length : Int) > 8)) && !(x.sets.any fun t => !nameP has t.name) && !(x.order.any fun o => decide (o.n < 1) || decide (o.n > 16))

set_option maxRecDepth 1500 in
set_option maxHeartbeats 8000000 in
theorem shape_ok (C : Calls') (has : Str → Str → Bool) (x : SX)
    (h19 : C.pure 19 [.str x.join] = some (.ret [.bool (nameP has x.join)]))
    (ht : ∀ b, C.pure 82 [.str x.tbl, .bool b] = some (.ret [.bool (named? has x.tbl b)]))
    (hk : ∀ b, C.pure 82 [.str x.key, .bool b] = some (.ret [.bool (named? has x.key b)]))
    (hi : ∀ b, C.pure 82 [.str x.index, .bool b] = some (.ret [.bool (named? has x.index b)]))
    (h83 : ∀ n m b l, C.pure 83 [.int .i64 n, .int .i64 m, .bool b, .int .i64 l] = some (.ret [.bool (countP n m b l)]))
    (h84 : C.pure 84 [.list (colsPD x.cols), .func 85 [] []] = some (.ret [.bool (x.cols.any fun c => ColP has c.name c.kind)]))
    (h86 : C.pure 86 [.list (rowsPD x.rows), .func 87 [] []] = some (.ret [.bool (x.rows.any fun l => decide ((l.length : Int) < 1) || decide ((l.length : Int) > 8))]))
    (h88 : C.pure 88 [.list (setsPD x.sets), .func 89 [] []] = some (.ret [.bool (x.sets.any fun t => !nameP has t.name)]))
    (h90 : C.pure 90 [.list (ordsPD x.order), .func 91 [] []] = some (.ret [.bool (x.order.any fun o => decide (o.n < 1) || decide (o.n > 16))])) :
    PSpec C F49 [x.pd] (.ret [.bool (shapeP has x)]) := by
  obtain ⟨k, tbl, cols, key, index, rows, sets, items, join, on, wher, group, order, limit⟩ := x
  simp only at h19 ht hk hi h84 h86 h88 h90
  have hg : ∃ q, shapeP has ⟨k, tbl, cols, key, index, rows, sets, items, join, on, wher, group, order, limit⟩ = q := ⟨_, rfl⟩
  obtain ⟨q, hg⟩ := hg
  rw [hg]
  simp only [shapeP, limOK, wants] at hg
  obtain ⟨cb, hcb⟩ : ∃ cb, (cols.any fun c => ColP has c.name c.kind) = cb := ⟨_, rfl⟩
  obtain ⟨rb, hrb⟩ : ∃ cb, (rows.any fun l => decide ((l.length : Int) < 1) || decide ((l.length : Int) > 8)) = cb := ⟨_, rfl⟩
  obtain ⟨sb, hsb⟩ : ∃ cb, (sets.any fun t => !nameP has t.name) = cb := ⟨_, rfl⟩
  obtain ⟨ob, hob⟩ : ∃ cb, (order.any fun o => decide (o.n < 1) || decide (o.n > 16)) = cb := ⟨_, rfl⟩
  rw [hcb] at h84 hg; rw [hrb] at h86 hg; rw [hsb] at h88 hg; rw [hob] at h90 hg
  clear hcb hrb hsb hob
  simp only [PSpec, Body, F49, SX.pd, SX.cells]
  have fin : (k = 1 ∨ k = 2 ∨ k = 4 ∨ k = 5 ∨ k = 6 ∨ k = 7 ∨ (k ≠ 1 ∧ k ≠ 2 ∧ k ≠ 4 ∧ k ≠ 5 ∧ k ≠ 6 ∧ k ≠ 7)) := by omega
  rcases fin with rfl | rfl | rfl | rfl | rfl | rfl | ⟨k1, k2, k4, k5, k6, k7⟩
  · simp [strOp, ht, hk, hi, h83, h84, h86, h88, h90, h19, EX.pds_len, colsPD_len, rowsPD_len, setsPD_len, ordsPD_len] at hg ⊢
    repeat' (refine onB_split ?_ ?_ <;> intro h <;> (try simp only [Bool.not_eq_true', Bool.not_eq_false'] at h) <;> (have h' := h; try simp at h') <;> simp [h, h', strOp, ht, hk, hi, h83, h84, h86, h88, h90, h19, EX.pds_len, colsPD_len, rowsPD_len, setsPD_len, ordsPD_len] at hg ⊢ <;> first | (exact hg.symm; done) | (exact hg; done) | skip)
  · simp [strOp, ht, hk, hi, h83, h84, h86, h88, h90, h19, EX.pds_len, colsPD_len, rowsPD_len, setsPD_len, ordsPD_len] at hg ⊢
    repeat' (refine onB_split ?_ ?_ <;> intro h <;> (try simp only [Bool.not_eq_true', Bool.not_eq_false'] at h) <;> (have h' := h; try simp at h') <;> simp [h, h', strOp, ht, hk, hi, h83, h84, h86, h88, h90, h19, EX.pds_len, colsPD_len, rowsPD_len, setsPD_len, ordsPD_len] at hg ⊢ <;> first | (exact hg.symm; done) | (exact hg; done) | skip)
  · simp [strOp, ht, hk, hi, h83, h84, h86, h88, h90, h19, EX.pds_len, colsPD_len, rowsPD_len, setsPD_len, ordsPD_len] at hg ⊢
    repeat' (refine onB_split ?_ ?_ <;> intro h <;> (try simp only [Bool.not_eq_true', Bool.not_eq_false'] at h) <;> (have h' := h; try simp at h') <;> simp [h, h', strOp, ht, hk, hi, h83, h84, h86, h88, h90, h19, EX.pds_len, colsPD_len, rowsPD_len, setsPD_len, ordsPD_len] at hg ⊢ <;> first | (exact hg.symm; done) | (exact hg; done) | skip)
  · simp [strOp, ht, hk, hi, h83, h84, h86, h88, h90, h19, EX.pds_len, colsPD_len, rowsPD_len, setsPD_len, ordsPD_len] at hg ⊢
    repeat' (refine onB_split ?_ ?_ <;> intro h <;> (try simp only [Bool.not_eq_true', Bool.not_eq_false'] at h) <;> (have h' := h; try simp at h') <;> simp [h, h', strOp, ht, hk, hi, h83, h84, h86, h88, h90, h19, EX.pds_len, colsPD_len, rowsPD_len, setsPD_len, ordsPD_len] at hg ⊢ <;> first | (exact hg.symm; done) | (exact hg; done) | skip)
  · simp [strOp, ht, hk, hi, h83, h84, h86, h88, h90, h19, EX.pds_len, colsPD_len, rowsPD_len, setsPD_len, ordsPD_len] at hg ⊢
    repeat' (refine onB_split ?_ ?_ <;> intro h <;> (try simp only [Bool.not_eq_true', Bool.not_eq_false'] at h) <;> (have h' := h; try simp at h') <;> simp [h, h', strOp, ht, hk, hi, h83, h84, h86, h88, h90, h19, EX.pds_len, colsPD_len, rowsPD_len, setsPD_len, ordsPD_len] at hg ⊢ <;> first | (exact hg.symm; done) | (exact hg; done) | skip)
  · by_cases hj : join = []
    · subst hj
      simp [strOp, ht, hk, hi, h83, h84, h86, h88, h90, h19, EX.pds_len, colsPD_len, rowsPD_len, setsPD_len, ordsPD_len] at hg ⊢
      repeat' (refine onB_split ?_ ?_ <;> intro h <;> (try simp only [Bool.not_eq_true', Bool.not_eq_false'] at h) <;> (have h' := h; try simp at h') <;> simp [h, h', strOp, ht, hk, hi, h83, h84, h86, h88, h90, h19, EX.pds_len, colsPD_len, rowsPD_len, setsPD_len, ordsPD_len] at hg ⊢ <;> first | (exact hg.symm; done) | (exact hg; done) | skip)
    · have hje : join.isEmpty = false := by simpa using hj
      simp [hj, hje, strOp, ht, hk, hi, h83, h84, h86, h88, h90, h19, EX.pds_len, colsPD_len, rowsPD_len, setsPD_len, ordsPD_len] at hg ⊢
      repeat' (refine onB_split ?_ ?_ <;> intro h <;> (try simp only [Bool.not_eq_true', Bool.not_eq_false'] at h) <;> (have h' := h; try simp at h') <;> simp [h, h', hj, hje, strOp, ht, hk, hi, h83, h84, h86, h88, h90, h19, EX.pds_len, colsPD_len, rowsPD_len, setsPD_len, ordsPD_len] at hg ⊢ <;> first | (exact hg.symm; done) | (exact hg; done) | skip)
  · have e1 : (k == 1) = false := by simpa using k1
    have e2 : (k == 2) = false := by simpa using k2
    have e4 : (k == 4) = false := by simpa using k4
    have e5 : (k == 5) = false := by simpa using k5
    have e6 : (k == 6) = false := by simpa using k6
    have e7 : (k == 7) = false := by simpa using k7
    simp [strOp, ht, hk, hi, h83, h84, h86, h88, h90, h19, EX.pds_len, colsPD_len, rowsPD_len, setsPD_len, ordsPD_len, e1, e2, e4, e5, e6, e7, k1, k2, k4, k5, k6, k7] at hg ⊢
    repeat' (refine onB_split ?_ ?_ <;> intro h <;> (try simp only [Bool.not_eq_true', Bool.not_eq_false'] at h) <;> (have h' := h; try simp at h') <;> simp [h, h', e1, e2, e4, e5, e6, e7, k1, k2, k4, k5, k6, k7, strOp, ht, hk, hi, h83, h84, h86, h88, h90, h19, EX.pds_len, colsPD_len, rowsPD_len, setsPD_len, ordsPD_len] at hg ⊢ <;> first | (exact hg.symm; done) | (exact hg; done) | skip)
end Go.Proofs.YtkcbomohgbafoaaDoor
