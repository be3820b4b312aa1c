/- Part of the text. -/
import Derived.Test.YtkcbomohgbafoaaDoorIa
import Derived.Test.YtkcbomohgbafoaaDoorEf
set_option linter.unusedSimpArgs false
namespace Go.Proofs.YtkcbomohgbafoaaDoor
open Go

theorem need_ok (C : Calls') (ok : Bool) (e : Int) : PSpec C F93 [.bool ok, .int .i64 e] (if ok then .ret [] else .pan (.iface 28 (.int .i64 e))) := by
  cases ok <;> simp [PSpec, Body, F93]

/-- A byte that may not stand in a name. -/
def badByte (c : UInt8) : Bool := (c - 97) ≥ 26 && (c - 48) ≥ 10 && c != 95

theorem name1_ok (C : Calls') (c : UInt8) : PSpec C F48 [.int .u8 c.toNat] (.ret [.bool (badByte c)]) := by
  have h1 := wrap_sub_u8 c 97
  have h2 := wrap_sub_u8 c 48
  simp at h1 h2
  have e1 : (c - 97 ≥ 26) ↔ 26 ≤ ((c - 97).toNat : Int) := by rw [ge_iff_le, UInt8.le_iff_toNat_le]; simp; omega
  have e2 : (c - 48 ≥ 10) ↔ 10 ≤ ((c - 48).toNat : Int) := by rw [ge_iff_le, UInt8.le_iff_toNat_le]; simp; omega
  have e3 : ((c.toNat : Int) != 95) = (c != 95) := by
    rw [Bool.eq_iff_iff]
    simp only [bne_iff_ne, ne_eq, ← UInt8.toNat_inj]
    simp
    omega
  by_cases g1 : 26 ≤ ((c - 97).toNat : Int)
  · by_cases g2 : 10 ≤ ((c - 48).toNat : Int)
    · simp [PSpec, Body, F48, h1, h2, g1, g2, badByte, e1, e2, e3]
    · simp [PSpec, Body, F48, h1, h2, g1, g2, badByte, e1, e2]
  · simp [PSpec, Body, F48, h1, h2, g1, badByte, e1]

def lowerB (c : UInt8) : UInt8 := if c - 65 < 26 then c ||| 32 else c
/-- The row when its first i bytes have been lowered. -/
def low (i : Nat) (s : List UInt8) : List UInt8 := (s.take i).map lowerB ++ s.drop i
theorem low_len {i : Nat} {s : List UInt8} : (low i s).length = s.length := by simp [low]; omega
theorem low_get {i : Nat} {s : List UInt8} (h : i < s.length) : (low i s)[i]? = s[i]? := by
  simp [low, List.getElem?_append, Nat.min_eq_left (Nat.le_of_lt h)]
theorem low_set {i : Nat} {s : List UInt8} {c : UInt8} (h : s[i]? = some c) : (low i s).set i (lowerB c) = low (i + 1) s := by
  obtain ⟨hi, rfl⟩ := List.getElem?_eq_some_iff.mp h
  apply List.ext_getElem?
  intro j
  simp only [low, List.getElem?_set, List.getElem?_append, List.length_append, List.length_map, List.length_take, List.length_drop, List.getElem?_map, List.getElem?_take, List.getElem?_drop]
  by_cases e : i = j
  · subst e
    have e1 : i < min i s.length + (s.length - i) := by omega
    have e2 : i < min (i + 1) s.length := by omega
    simp [e1, e2, hi]
  · by_cases e3 : j < i
    · have e1 : j < min i s.length := by omega
      have e2 : j < min (i + 1) s.length := by omega
      simp [e, e1, e2, e3, Nat.lt_succ_of_lt e3]
    · have e1 : ¬ j < min i s.length := by omega
      have e2 : ¬ j < min (i + 1) s.length := by omega
      have e4 : i + (j - min i s.length) = i + 1 + (j - min (i + 1) s.length) := by omega
      simp [e, e1, e2, e4]
theorem low_zero (s : List UInt8) : low 0 s = s := by simp [low]
theorem low_all (s : List UInt8) : low s.length s = s.map lowerB := by simp [low]
theorem lower_ok (C : Calls') (s : List UInt8) (hs : s.length ≤ 9223372036854775807) : PSpec C F45 [.str s] (.ret [.str (s.map lowerB)]) := by
  simp [PSpec, Body, F45, hs, MARK]
  refine Runs_loop_ind (fun m t => ∃ i nx : Nat, i + m = s.length ∧ t = { env := upd (upd (upd (upd (fun _ => none) 10 (.data (.int .i64 i))) 9 (.data (.int .i64 s.length))) 8 (.sl [2] 0 s.length 1)) 3 (.sl [2] 0 s.length 1), heap := upd emptyH [2] (.box ((bytesD (low i s)).map .data)), pre := [], next := nx }) (n := s.length) ⟨0, 7, by simp, by simp [low_zero]⟩ ?_
  rintro m t ⟨i, nx, hi, rfl⟩ ih
  simp
  refine Runs_split rfl ?_ ?_ <;> intro h <;> simp at h
  · obtain ⟨c, hc⟩ : ∃ c, s[i]? = some c := ⟨_, List.getElem?_eq_getElem h⟩
    have hr := bytesD_get ((low_get h).trans hc)
    have h1 := wrap_sub_u8 c 65
    simp at h1
    have h2 : IntKind.wrap .i64 ((i : Int) + 1) = ((i + 1 : Nat) : Int) := by rw [wrap_i64'] <;> omega
    have e1 : (c - 65 < 26) ↔ ((c - 65).toNat : Int) < 26 := by rw [UInt8.lt_iff_toNat_lt]; simp; omega
    have hl : i + 1 ≤ (bytesD (low i s)).length := by rw [bytesD_len, low_len]; omega
    simp [h, hr, h1]
    refine Runs_split rfl ?_ ?_ <;> intro g <;> simp at g
    · have h3 := or_wrap c 32
      simp at h3
      have h4 : low (i + 1) s = (low i s).set i (c ||| 32) := by rw [← low_set hc]; simp [lowerB, e1, g]
      simp [h, hr, h2, h3, hl, upd_upd, -splice]
      refine ih (m - 1) _ (by omega) ⟨i + 1, nx + 1 + 5 + 3 + 6 + 2, by omega, ?_⟩
      rw [splice_one _ (by simpa [bytesD_len, low_len] using h)]
      simp [h4, ← bytesD_set, List.map_set, upd_upd]
    · have h4 : low (i + 1) s = low i s := by rw [← low_set hc]; simp [lowerB, e1, Int.not_lt.mpr g]; exact set_same ((low_get h).trans hc)
      simp [h2]
      exact ih (m - 1) _ (by omega) ⟨i + 1, nx + 1 + 5 + 3 + 2, by omega, by simp [h4]⟩
  · have : i = s.length := by omega
    subst this
    have e : List.take s.length (List.map RV.data (bytesD (low s.length s))) = (bytesD (s.map lowerB)).map .data := by
      rw [low_all]; exact List.take_of_length_le (by simp [bytesD_len])
    simp [bytesD_len, low_len, e, allData_row, strD_row]

end Go.Proofs.YtkcbomohgbafoaaDoor
/- The specifications of slices.IndexFunc and slices.ContainsFunc. -/
set_option linter.unusedSimpArgs false
namespace Go.Proofs.YtkcbomohgbafoaaDoor
open Go

theorem index81_ok (C : Calls') (l : List PD) (f : Nat) (a b : List PD) (p : PD → Bool) (hl : l.length ≤ 9223372036854775807) (hsf : shFn f = false)
    (hc : ∀ d ∈ l, C.pure f (a ++ d :: b) = some (.ret [.bool (p d)])) (hz : ∀ d ∈ l, cellsD d = [d]) :
    PSpec C F81 [.list l, .func f a b] (.ret [.int .i64 (idxI p l)]) := by
  simp [PSpec, Body, F81]
  refine Runs_loop_ind (fun m t => ∃ i nx : Nat, i + m = l.length ∧ (∀ j e, j < i → l[j]? = some e → p e = false) ∧ t = { env := upd (upd (upd (upd (fun _ => none) 8 (.data (.int .i64 i))) 7 (.data (.int .i64 l.length))) 1 (.data (.func f a b))) 0 (.data (.list l)), heap := emptyH, pre := [], next := nx }) (n := l.length) ⟨0, 4, by simp, by simp, by simp⟩ ?_
  rintro m t ⟨i, nx, hi, hb, rfl⟩ ih
  simp
  refine Runs_split rfl ?_ ?_ <;> intro h <;> simp at h
  · obtain ⟨d, hd⟩ : ∃ d, l[i]? = some d := ⟨_, List.getElem?_eq_getElem h⟩
    have hm := List.mem_of_getElem? hd
    have h2 : IntKind.wrap .i64 ((i : Int) + 1) = ((i + 1 : Nat) : Int) := by rw [wrap_i64'] <;> omega
    have hc' := hc _ hm
    simp [-cellsD, hd, hz _ hm, toDs_mid, hc', h2, hsf, -shFn]
    refine Runs_split rfl ?_ ?_ <;> intro g
    · simp [idxI_at hd g hb]
    · simp [h2]
      refine ih (m - 1) _ (by omega) ⟨i + 1, _, by omega, ?_, rfl⟩
      intro j e hj he
      by_cases hji : j < i
      · exact hb j e hji he
      · have : j = i := by omega
        subst this
        rw [hd] at he
        cases he
        exact g
  · have : i = l.length := by omega
    subst this
    simp [idxI_none hb]

theorem index111_ok (C : Calls') (l : List PD) (f : Nat) (a b : List PD) (p : PD → Bool) (hl : l.length ≤ 9223372036854775807) (hsf : shFn f = false)
    (hc : ∀ d ∈ l, C.pure f (a ++ d :: b) = some (.ret [.bool (p d)])) (hz : ∀ d ∈ l, ∃ x, d = .agg x ∧ x.length = 3) :
    PSpec C F111 [.list l, .func f a b] (.ret [.int .i64 (idxI p l)]) := by
  simp [PSpec, Body, F111]
  refine Runs_loop_ind (fun m t => ∃ i nx : Nat, i + m = l.length ∧ (∀ j e, j < i → l[j]? = some e → p e = false) ∧ t = { env := upd (upd (upd (upd (fun _ => none) 8 (.data (.int .i64 i))) 7 (.data (.int .i64 l.length))) 1 (.data (.func f a b))) 0 (.data (.list l)), heap := emptyH, pre := [], next := nx }) (n := l.length) ⟨0, 4, by simp, by simp, by simp⟩ ?_
  rintro m t ⟨i, nx, hi, hb, rfl⟩ ih
  simp
  refine Runs_split rfl ?_ ?_ <;> intro h <;> simp at h
  · obtain ⟨d, hd⟩ : ∃ d, l[i]? = some d := ⟨_, List.getElem?_eq_getElem h⟩
    have hm := List.mem_of_getElem? hd
    have h2 : IntKind.wrap .i64 ((i : Int) + 1) = ((i + 1 : Nat) : Int) := by rw [wrap_i64'] <;> omega
    obtain ⟨x, rfl, hx⟩ := hz d hm
    have hc' := hc _ hm
    have ht : x.take 3 = x := List.take_of_length_le (by omega)
    simp [hd, hx, ht, toDs_mid, hc', h2, hsf, -shFn]
    refine Runs_split rfl ?_ ?_ <;> intro g
    · simp [idxI_at hd g hb]
    · simp [h2]
      refine ih (m - 1) _ (by omega) ⟨i + 1, _, by omega, ?_, rfl⟩
      intro j e hj he
      by_cases hji : j < i
      · exact hb j e hji he
      · have : j = i := by omega
        subst this
        rw [hd] at he
        cases he
        exact g
  · have : i = l.length := by omega
    subst this
    simp [idxI_none hb]

theorem index112_ok (C : Calls') (l : List PD) (f : Nat) (a b : List PD) (p : PD → Bool) (hl : l.length ≤ 9223372036854775807) (hsf : shFn f = false)
    (hc : ∀ d ∈ l, C.pure f (a ++ d :: b) = some (.ret [.bool (p d)])) (hz : ∀ d ∈ l, cellsD d = [d]) :
    PSpec C F112 [.list l, .func f a b] (.ret [.int .i64 (idxI p l)]) := by
  simp [PSpec, Body, F112]
  refine Runs_loop_ind (fun m t => ∃ i nx : Nat, i + m = l.length ∧ (∀ j e, j < i → l[j]? = some e → p e = false) ∧ t = { env := upd (upd (upd (upd (fun _ => none) 8 (.data (.int .i64 i))) 7 (.data (.int .i64 l.length))) 1 (.data (.func f a b))) 0 (.data (.list l)), heap := emptyH, pre := [], next := nx }) (n := l.length) ⟨0, 4, by simp, by simp, by simp⟩ ?_
  rintro m t ⟨i, nx, hi, hb, rfl⟩ ih
  simp
  refine Runs_split rfl ?_ ?_ <;> intro h <;> simp at h
  · obtain ⟨d, hd⟩ : ∃ d, l[i]? = some d := ⟨_, List.getElem?_eq_getElem h⟩
    have hm := List.mem_of_getElem? hd
    have h2 : IntKind.wrap .i64 ((i : Int) + 1) = ((i + 1 : Nat) : Int) := by rw [wrap_i64'] <;> omega
    have hc' := hc _ hm
    simp [-cellsD, hd, hz _ hm, toDs_mid, hc', h2, hsf, -shFn]
    refine Runs_split rfl ?_ ?_ <;> intro g
    · simp [idxI_at hd g hb]
    · simp [h2]
      refine ih (m - 1) _ (by omega) ⟨i + 1, _, by omega, ?_, rfl⟩
      intro j e hj he
      by_cases hji : j < i
      · exact hb j e hji he
      · have : j = i := by omega
        subst this
        rw [hd] at he
        cases he
        exact g
  · have : i = l.length := by omega
    subst this
    simp [idxI_none hb]

theorem index113_ok (C : Calls') (l : List PD) (f : Nat) (a b : List PD) (p : PD → Bool) (hl : l.length ≤ 9223372036854775807) (hsf : shFn f = false)
    (hc : ∀ d ∈ l, C.pure f (a ++ d :: b) = some (.ret [.bool (p d)])) (hz : ∀ d ∈ l, ∃ x, d = .agg x ∧ x.length = 8) :
    PSpec C F113 [.list l, .func f a b] (.ret [.int .i64 (idxI p l)]) := by
  simp [PSpec, Body, F113]
  refine Runs_loop_ind (fun m t => ∃ i nx : Nat, i + m = l.length ∧ (∀ j e, j < i → l[j]? = some e → p e = false) ∧ t = { env := upd (upd (upd (upd (fun _ => none) 8 (.data (.int .i64 i))) 7 (.data (.int .i64 l.length))) 1 (.data (.func f a b))) 0 (.data (.list l)), heap := emptyH, pre := [], next := nx }) (n := l.length) ⟨0, 4, by simp, by simp, by simp⟩ ?_
  rintro m t ⟨i, nx, hi, hb, rfl⟩ ih
  simp
  refine Runs_split rfl ?_ ?_ <;> intro h <;> simp at h
  · obtain ⟨d, hd⟩ : ∃ d, l[i]? = some d := ⟨_, List.getElem?_eq_getElem h⟩
    have hm := List.mem_of_getElem? hd
    have h2 : IntKind.wrap .i64 ((i : Int) + 1) = ((i + 1 : Nat) : Int) := by rw [wrap_i64'] <;> omega
    obtain ⟨x, rfl, hx⟩ := hz d hm
    have hc' := hc _ hm
    have ht : x.take 8 = x := List.take_of_length_le (by omega)
    simp [hd, hx, ht, toDs_mid, hc', h2, hsf, -shFn]
    refine Runs_split rfl ?_ ?_ <;> intro g
    · simp [idxI_at hd g hb]
    · simp [h2]
      refine ih (m - 1) _ (by omega) ⟨i + 1, _, by omega, ?_, rfl⟩
      intro j e hj he
      by_cases hji : j < i
      · exact hb j e hji he
      · have : j = i := by omega
        subst this
        rw [hd] at he
        cases he
        exact g
  · have : i = l.length := by omega
    subst this
    simp [idxI_none hb]

theorem index114_ok (C : Calls') (l : List PD) (f : Nat) (a b : List PD) (p : PD → Bool) (hl : l.length ≤ 9223372036854775807) (hsf : shFn f = false)
    (hc : ∀ d ∈ l, C.pure f (a ++ d :: b) = some (.ret [.bool (p d)])) (hz : ∀ d ∈ l, ∃ x, d = .agg x ∧ x.length = 2) :
    PSpec C F114 [.list l, .func f a b] (.ret [.int .i64 (idxI p l)]) := by
  simp [PSpec, Body, F114]
  refine Runs_loop_ind (fun m t => ∃ i nx : Nat, i + m = l.length ∧ (∀ j e, j < i → l[j]? = some e → p e = false) ∧ t = { env := upd (upd (upd (upd (fun _ => none) 8 (.data (.int .i64 i))) 7 (.data (.int .i64 l.length))) 1 (.data (.func f a b))) 0 (.data (.list l)), heap := emptyH, pre := [], next := nx }) (n := l.length) ⟨0, 4, by simp, by simp, by simp⟩ ?_
  rintro m t ⟨i, nx, hi, hb, rfl⟩ ih
  simp
  refine Runs_split rfl ?_ ?_ <;> intro h <;> simp at h
  · obtain ⟨d, hd⟩ : ∃ d, l[i]? = some d := ⟨_, List.getElem?_eq_getElem h⟩
    have hm := List.mem_of_getElem? hd
    have h2 : IntKind.wrap .i64 ((i : Int) + 1) = ((i + 1 : Nat) : Int) := by rw [wrap_i64'] <;> omega
    obtain ⟨x, rfl, hx⟩ := hz d hm
    have hc' := hc _ hm
    have ht : x.take 2 = x := List.take_of_length_le (by omega)
    simp [hd, hx, ht, toDs_mid, hc', h2, hsf, -shFn]
    refine Runs_split rfl ?_ ?_ <;> intro g
    · simp [idxI_at hd g hb]
    · simp [h2]
      refine ih (m - 1) _ (by omega) ⟨i + 1, _, by omega, ?_, rfl⟩
      intro j e hj he
      by_cases hji : j < i
      · exact hb j e hji he
      · have : j = i := by omega
        subst this
        rw [hd] at he
        cases he
        exact g
  · have : i = l.length := by omega
    subst this
    simp [idxI_none hb]

theorem contains47_ok (C : Calls') (l : List PD) (f : Nat) (a b : List PD) (p : PD → Bool)
    (h : C.pure 81 [.list l, .func f a b] = some (.ret [.int .i64 (idxI p l)])) :
    PSpec C F47 [.list l, .func f a b] (.ret [.bool (l.any p)]) := by
  simp [PSpec, Body, F47, h, ← idxI_any]

theorem contains84_ok (C : Calls') (l : List PD) (f : Nat) (a b : List PD) (p : PD → Bool)
    (h : C.pure 111 [.list l, .func f a b] = some (.ret [.int .i64 (idxI p l)])) :
    PSpec C F84 [.list l, .func f a b] (.ret [.bool (l.any p)]) := by
  simp [PSpec, Body, F84, h, ← idxI_any]

theorem contains86_ok (C : Calls') (l : List PD) (f : Nat) (a b : List PD) (p : PD → Bool)
    (h : C.pure 112 [.list l, .func f a b] = some (.ret [.int .i64 (idxI p l)])) :
    PSpec C F86 [.list l, .func f a b] (.ret [.bool (l.any p)]) := by
  simp [PSpec, Body, F86, h, ← idxI_any]

theorem contains88_ok (C : Calls') (l : List PD) (f : Nat) (a b : List PD) (p : PD → Bool)
    (h : C.pure 113 [.list l, .func f a b] = some (.ret [.int .i64 (idxI p l)])) :
    PSpec C F88 [.list l, .func f a b] (.ret [.bool (l.any p)]) := by
  simp [PSpec, Body, F88, h, ← idxI_any]

theorem contains90_ok (C : Calls') (l : List PD) (f : Nat) (a b : List PD) (p : PD → Bool)
    (h : C.pure 114 [.list l, .func f a b] = some (.ret [.int .i64 (idxI p l)])) :
    PSpec C F90 [.list l, .func f a b] (.ret [.bool (l.any p)]) := by
  simp [PSpec, Body, F90, h, ← idxI_any]

end Go.Proofs.YtkcbomohgbafoaaDoor
/- The specifications of the functions of lex and syntax that look at names. -/
set_option linter.unusedSimpArgs false
namespace Go.Proofs.YtkcbomohgbafoaaDoor
open Go

/-- The keywords, with spaces around them. -/
def allWords : List UInt8 := [32, 99, 114, 101, 97, 116, 101, 32, 116, 97, 98, 108, 101, 32, 105, 110, 100, 101, 120, 32, 111, 110, 32, 100, 114, 111, 112, 32, 105, 110, 115, 101, 114, 116, 32, 105, 110, 116, 111, 32, 118, 97, 108, 117, 101, 115, 32, 117, 112, 100, 97, 116, 101, 32, 115, 101, 116, 32, 100, 101, 108, 101, 116, 101, 32, 102, 114, 111, 109, 32, 119, 104, 101, 114, 101, 32, 115, 101, 108, 101, 99, 116, 32, 106, 111, 105, 110, 32, 103, 114, 111, 117, 112, 32, 98, 121, 32, 111, 114, 100, 101, 114, 32, 100, 101, 115, 99, 32, 108, 105, 109, 105, 116, 32, 98, 101, 103, 105, 110, 32, 99, 111, 109, 109, 105, 116, 32, 114, 111, 108, 108, 98, 97, 99, 107, 32, 112, 114, 105, 109, 97, 114, 121, 32, 107, 101, 121, 32, 110, 111, 116, 32, 110, 117, 108, 108, 32, 105, 115, 32, 97, 110, 100, 32, 111, 114, 32, 116, 114, 117, 101, 32, 102, 97, 108, 115, 101, 32, 105, 110, 116, 32, 98, 111, 111, 108, 32, 116, 101, 120, 116, 32, 99, 111, 117, 110, 116, 32, 115, 117, 109, 32, 109, 105, 110, 32, 109, 97, 120, 32]
def lowers (s : List UInt8) : List UInt8 := s.map lowerB
def keyword (has : List UInt8 → List UInt8 → Bool) (s : List UInt8) : Bool := lowers s != [] && (!has (lowers s) [32] && has allWords ([32] ++ lowers s ++ [32]))

theorem keyword_ok (C : Calls') (has : List UInt8 → List UInt8 → Bool) (s : List UInt8) (hs : s.length ≤ 1000000000)
    (h45 : C.pure 45 [.str s] = some (.ret [.str (lowers s)]))
    (h46 : ∀ b, C.pure 46 [.str (lowers s), .str b] = some (.ret [.bool (has (lowers s) b)]))
    (h46' : ∀ b, C.pure 46 [.str allWords, .str b] = some (.ret [.bool (has allWords b)])) :
    PSpec C F18 [.str s] (.ret [.bool (keyword has s)]) := by
  have hl : (lowers s).length ≤ 1000000000 := by simpa [lowers] using hs
  have hl1 : 1 + (lowers s).length ≤ 9223372036854775807 := by omega
  have hl2 : (lowers s).length ≤ 9223372036854775805 := by omega
  simp only [allWords] at h46'
  by_cases g1 : lowers s = []
  · simp [PSpec, Body, F18, h45, g1, keyword, strOp]
  · have g1' : (lowers s).isEmpty = false := by simpa using g1
    cases g2 : has (lowers s) [32]
    · simp [PSpec, Body, F18, h45, g1, g1', g2, h46, h46', keyword, strOp, allWords, hl1, hl2]
    · simp [PSpec, Body, F18, h45, g1, g1', g2, h46, keyword, strOp]

def nameP (has : List UInt8 → List UInt8 → Bool) : List UInt8 → Bool
  | [] => false
  | c :: s => !(decide (s.length + 1 > 16)) && !(decide (c - 48 < 10)) && !(keyword has (c :: s)) && !((c :: s).any badByte)

theorem any_bytes (p : UInt8 → Bool) (q : PD → Bool) (h : ∀ c : UInt8, q (.int .u8 c.toNat) = p c) : ∀ s : List UInt8, (bytesD s).any q = s.any p
  | [] => rfl
  | c :: s => by
    have := any_bytes p q h s
    simp only [bytesD] at this
    simp [bytesD, h, this]
def badD : PD → Bool
  | .int .u8 n => badByte n.toNat.toUInt8
  | _ => false

theorem name_ok (C : Calls') (has : List UInt8 → List UInt8 → Bool) (s : List UInt8) (hs : s.length ≤ 9223372036854775807)
    (h18 : s.length ≤ 16 → C.pure 18 [.str s] = some (.ret [.bool (keyword has s)]))
    (h47 : C.pure 47 [.list (bytesD s), .func 48 [] []] = some (.ret [.bool ((bytesD s).any badD)])) :
    PSpec C F19 [.str s] (.ret [.bool (nameP has s)]) := by
  cases s with
  | nil => simp [PSpec, Body, F19, nameP, strOp]
  | cons c s =>
    have hw := wrap_sub_u8 c 48
    simp at hw
    have e1 : (c - 48 < 10) ↔ ((c - 48).toNat : Int) < 10 := by rw [UInt8.lt_iff_toNat_lt]; simp; omega
    have e2 : (bytesD (c :: s)).any badD = (c :: s).any badByte := any_bytes _ _ (fun c => by simp [badD]) _
    rw [e2] at h47
    have hl : (c :: s).length ≤ 9223372036854775807 := by omega
    simp only [List.length_cons] at hl
    by_cases g1 : s.length + 1 > 16
    · have g1' : (16 : Int) < (s.length : Int) + 1 := by omega
      simp [PSpec, Body, F19, nameP, strOp, g1, g1']
    · have g1' : ¬ (16 : Int) < (s.length : Int) + 1 := by omega
      have h18 := h18 (by simp; omega)
      by_cases g2 : ((c - 48).toNat : Int) < 10
      · simp [PSpec, Body, F19, nameP, strOp, g1, g1', hw, g2, e1]
      · cases g3 : keyword has (c :: s)
        · simp [PSpec, Body, F19, nameP, strOp, g1, g1', hw, g2, e1, h18, g3, hl, h47]
        · simp [PSpec, Body, F19, nameP, strOp, g1, g1', hw, g2, e1, h18, g3]

end Go.Proofs.YtkcbomohgbafoaaDoor
/- The specifications of syntax.Args, value.Check and syntax.part, and the values of the API's types. -/
set_option linter.unusedSimpArgs false
namespace Go.Proofs.YtkcbomohgbafoaaDoor
open Go

abbrev Str := List UInt8
structure VX where
  kind : Int
  n : Int
  text : Str
inductive EX where
  | mk (op : Int) (v : VX) (tbl name : Str) (args : List EX)
def EX.op : EX → Int | .mk op _ _ _ _ => op
def EX.v : EX → VX | .mk _ v _ _ _ => v
def EX.tbl : EX → Str | .mk _ _ t _ _ => t
def EX.name : EX → Str | .mk _ _ _ n _ => n
def EX.args : EX → List EX | .mk _ _ _ _ a => a
mutual
def EX.pd : EX → PD
  | .mk op v t n a => .agg [.int .i64 op, .int .i64 v.kind, .int .i64 v.n, .str v.text, .str t, .str n, .list (EX.pds a)]
def EX.pds : List EX → List PD
  | [] => []
  | e :: r => EX.pd e :: EX.pds r
end
theorem EX.pds_eq : ∀ l : List EX, EX.pds l = l.map EX.pd
  | [] => rfl
  | e :: r => by simp [EX.pds, EX.pds_eq r]
theorem EX.pds_len (l : List EX) : (EX.pds l).length = l.length := by simp [EX.pds_eq]
def VX.pd (v : VX) : PD := .agg [.int .i64 v.kind, .int .i64 v.n, .str v.text]

def argsOf (op : Int) : Int × Bool :=
  if op = 0 ∨ op = 1 ∨ op = 18 then (0, true)
  else if op = 2 ∨ op = 3 ∨ op = 16 ∨ op = 17 ∨ op = 19 ∨ op = 20 ∨ op = 21 ∨ op = 22 then (1, true)
  else (2, decide (4 ≤ op) && decide (op < 16))

theorem args_ok (C : Calls') (op : Int) : PSpec C F115 [.int .i64 op] (.ret [.int .i64 (argsOf op).1, .bool (argsOf op).2]) := by
  by_cases h0 : op = 0
  · subst h0; simp [PSpec, Body, F115, argsOf]
  by_cases h1 : op = 1
  · subst h1; simp [PSpec, Body, F115, argsOf]
  by_cases h18 : op = 18
  · subst h18; simp [PSpec, Body, F115, argsOf]
  by_cases h2 : op = 2
  · subst h2; simp [PSpec, Body, F115, argsOf]
  by_cases h3 : op = 3
  · subst h3; simp [PSpec, Body, F115, argsOf]
  by_cases h16 : op = 16
  · subst h16; simp [PSpec, Body, F115, argsOf]
  by_cases h17 : op = 17
  · subst h17; simp [PSpec, Body, F115, argsOf]
  by_cases h19 : op = 19
  · subst h19; simp [PSpec, Body, F115, argsOf]
  by_cases h20 : op = 20
  · subst h20; simp [PSpec, Body, F115, argsOf]
  by_cases h21 : op = 21
  · subst h21; simp [PSpec, Body, F115, argsOf]
  by_cases h22 : op = 22
  · subst h22; simp [PSpec, Body, F115, argsOf]
  by_cases g : 4 ≤ op
  · simp [PSpec, Body, F115, argsOf, *]
  · simp [PSpec, Body, F115, argsOf, *]

def valOK (v : VX) : Bool :=
  if v.kind = 0 then decide (v.n = 0) && v.text == []
  else if v.kind = 1 then v.text == []
  else if v.kind = 2 then v.text == [] && decide (IntKind.wrap .u64 v.n ≤ 1)
  else if v.kind = 3 then decide (v.n = 0) && decide (v.text.length ≤ 64)
  else false

theorem val_ok (C : Calls') (v : VX) : PSpec C F116 [v.pd] (.ret [.int .i64 (if valOK v then 0 else 9)]) := by
  obtain ⟨k, n, t⟩ := v
  by_cases h0 : k = 0
  · subst h0
    simp [PSpec, Body, F116, valOK, VX.pd, mkAgg, eqKs, eqK]
    refine Runs_split rfl ?_ ?_ <;> intro h <;> simp at h <;> simp [h]
    · by_cases g : n = 0 <;> simp_all
  by_cases h1 : k = 1
  · subst h1
    simp [PSpec, Body, F116, valOK, VX.pd, strOp]
    refine Runs_split rfl ?_ ?_ <;> intro h <;> simp at h <;> simp [h]
  by_cases h2 : k = 2
  · subst h2
    by_cases g : t = []
    · subst g
      simp [PSpec, Body, F116, valOK, VX.pd, strOp]
      refine Runs_split rfl ?_ ?_ <;> intro h <;> simp at h <;> simp [h]
    · simp [PSpec, Body, F116, valOK, VX.pd, strOp, g]
  by_cases h3 : k = 3
  · subst h3
    by_cases g : n = 0
    · subst g
      simp [PSpec, Body, F116, valOK, VX.pd, strOp]
      refine Runs_split rfl ?_ ?_ <;> intro h <;> simp at h <;> simp [h] <;> omega
    · simp [PSpec, Body, F116, valOK, VX.pd, strOp, g]
  simp [PSpec, Body, F116, valOK, VX.pd, h0, h1, h2, h3]

def named? (has : Str → Str → Bool) (s : Str) (asked : Bool) : Bool := if asked then nameP has s else s == []
theorem named_ok (C : Calls') (has : Str → Str → Bool) (s : Str) (asked : Bool) (h : C.pure 19 [.str s] = some (.ret [.bool (nameP has s)])) :
    PSpec C F82 [.str s, .bool asked] (.ret [.bool (named? has s asked)]) := by
  cases asked <;> simp [PSpec, Body, F82, named?, h, strOp]

def countP (n most : Int) (asked : Bool) (least : Int) : Bool := if asked then decide (least ≤ n) && decide (n ≤ most) else decide (n = 0)
theorem count_ok (C : Calls') (n most : Int) (asked : Bool) (least : Int) : PSpec C F83 [.int .i64 n, .int .i64 most, .bool asked, .int .i64 least] (.ret [.bool (countP n most asked least)]) := by
  cases asked
  · simp [PSpec, Body, F83, countP]; rfl
  · by_cases g : least ≤ n <;> simp [PSpec, Body, F83, countP, g]

def partP (has : Str → Str → Bool) (e : EX) : Bool :=
  (argsOf e.op).2 && decide ((argsOf e.op).1 = e.args.length) &&
  (if e.op = 0 then (e.tbl ++ e.name == []) && valOK e.v && (decide (e.v.kind ≠ 1) || decide (0 ≤ e.v.n))
   else if e.op = 1 then decide (e.v.kind = 0) && decide (e.v.n = 0) && (e.v.text == []) && nameP has e.name && (e.tbl == [] || nameP has e.tbl)
   else decide (e.v.kind = 0) && decide (e.v.n = 0) && (e.v.text == []) && (e.tbl ++ e.name == []))

theorem part_ok (C : Calls') (has : Str → Str → Bool) (e : EX) (hl : e.tbl.length + e.name.length ≤ 9223372036854775807)
    (h19 : ∀ s, s = e.tbl ∨ s = e.name → C.pure 19 [.str s] = some (.ret [.bool (nameP has s)]))
    (h115 : C.pure 115 [.int .i64 e.op] = some (.ret [.int .i64 (argsOf e.op).1, .bool (argsOf e.op).2]))
    (h116 : C.pure 116 [e.v.pd] = some (.ret [.int .i64 (if valOK e.v then 0 else 9)])) :
    PSpec C F94 [e.pd] (.ret [.bool (partP has e)]) := by
  obtain ⟨op, ⟨k, n, t⟩, tbl, name, args⟩ := e
  simp only [EX.op, EX.v, EX.tbl, EX.name, EX.args, VX.pd] at h115 h116 hl h19
  cases g1 : (argsOf op).2
  · simp [PSpec, Body, F94, EX.pd, partP, EX.op, h115, g1]
  by_cases g2 : (argsOf op).1 = args.length
  case neg => simp [PSpec, Body, F94, EX.pd, partP, EX.op, EX.args, h115, g1, g2, EX.pds_len]
  by_cases h0 : op = 0
  · subst h0
    by_cases g3 : tbl ++ name = []
    · cases g4 : valOK ⟨k, n, t⟩
      · simp [PSpec, Body, F94, EX.pd, partP, EX.op, EX.args, EX.v, EX.tbl, EX.name, h115, g1, g2, EX.pds_len, strOp, hl, g3, g4, h116, mkAgg]
      · by_cases g5 : k = 1
        · subst g5
          simp [PSpec, Body, F94, EX.pd, partP, EX.op, EX.args, EX.v, EX.tbl, EX.name, h115, g1, g2, EX.pds_len, strOp, hl, g3, g4, h116, mkAgg]
          rfl
        · simp [PSpec, Body, F94, EX.pd, partP, EX.op, EX.args, EX.v, EX.tbl, EX.name, h115, g1, g2, EX.pds_len, strOp, hl, g3, g4, h116, mkAgg, g5]
    · simp [PSpec, Body, F94, EX.pd, partP, EX.op, EX.args, EX.v, EX.tbl, EX.name, h115, g1, g2, EX.pds_len, strOp, hl, g3, mkAgg]
  have h19t := h19 tbl (Or.inl rfl)
  have h19n := h19 name (Or.inr rfl)
  clear h19
  by_cases z : k = 0 ∧ n = 0 ∧ t = []
  · obtain ⟨rfl, rfl, rfl⟩ := z
    by_cases h1 : op = 1
    · subst h1
      cases g6 : nameP has name
      · simp [PSpec, Body, F94, EX.pd, partP, EX.op, EX.args, EX.v, EX.tbl, EX.name, h115, g1, g2, EX.pds_len, strOp, hl, mkAgg, eqKs, eqK, h19t, h19n, g6]
      · by_cases g7 : tbl = []
        · simp [PSpec, Body, F94, EX.pd, partP, EX.op, EX.args, EX.v, EX.tbl, EX.name, h115, g1, g2, EX.pds_len, strOp, hl, mkAgg, eqKs, eqK, h19t, h19n, g6, g7]
        · simp [PSpec, Body, F94, EX.pd, partP, EX.op, EX.args, EX.v, EX.tbl, EX.name, h115, g1, g2, EX.pds_len, strOp, hl, mkAgg, eqKs, eqK, h19t, h19n, g6, g7]
    · simp [PSpec, Body, F94, EX.pd, partP, EX.op, EX.args, EX.v, EX.tbl, EX.name, h115, g1, g2, EX.pds_len, strOp, hl, mkAgg, eqKs, eqK, h0, h1]
  · have z' : (k == 0 && (n == 0 && t.isEmpty)) = false := by
      cases hz : (k == 0 && (n == 0 && t.isEmpty))
      · rfl
      · simp at hz; exact absurd hz z
    by_cases h1 : op = 1
    · subst h1
      have e : partP has (.mk 1 ⟨k, n, t⟩ tbl name args) = false := by
        clear h115 h116 h19t h19n
        by_cases g3 : k = 0 <;> by_cases g4 : n = 0 <;> by_cases g5 : t = [] <;> simp_all [partP, EX.op, EX.v, EX.tbl, EX.name, EX.args]
      rw [e]
      simp [PSpec, Body, F94, EX.pd, EX.op, EX.args, EX.v, EX.tbl, EX.name, h115, g1, g2, EX.pds_len, strOp, hl, mkAgg, eqKs, eqK, z, z']
    · have e : partP has (.mk op ⟨k, n, t⟩ tbl name args) = false := by
        clear h115 h116 h19t h19n
        by_cases g3 : k = 0 <;> by_cases g4 : n = 0 <;> by_cases g5 : t = [] <;> simp_all [partP, EX.op, EX.v, EX.tbl, EX.name, EX.args]
      rw [e]
      simp [PSpec, Body, F94, EX.pd, EX.op, EX.args, EX.v, EX.tbl, EX.name, h115, g1, g2, EX.pds_len, strOp, hl, mkAgg, eqKs, eqK, h0, h1, z, z']

end Go.Proofs.YtkcbomohgbafoaaDoor
/- The specifications of the tests of shape, of TrimPrefix and of Decimal. -/
set_option linter.unusedSimpArgs false
namespace Go.Proofs.YtkcbomohgbafoaaDoor
open Go

theorem shape2_ok (C : Calls') (l : List PD) : PSpec C F87 [.list l] (.ret [.bool (decide ((l.length : Int) < 1) || decide ((l.length : Int) > 8))]) := by
  by_cases g : (l.length : Int) < 1 <;> simp [PSpec, Body, F87, g]

def ColP (has : Str → Str → Bool) (name : Str) (kind : Int) : Bool := !nameP has name || decide (kind < 1) || decide (kind > 3)
theorem shape1_ok (C : Calls') (has : Str → Str → Bool) (name : Str) (kind : Int) (nn : PD) (h : C.pure 19 [.str name] = some (.ret [.bool (nameP has name)])) :
    PSpec C F85 [.agg [.str name, .int .i64 kind, nn]] (.ret [.bool (ColP has name kind)]) := by
  cases g1 : nameP has name
  · simp [PSpec, Body, F85, h, ColP, g1]
  · by_cases g2 : kind < 1 <;> simp [PSpec, Body, F85, h, ColP, g1, g2]
theorem shape3_ok (C : Calls') (has : Str → Str → Bool) (name : Str) (r : List PD) (h : C.pure 19 [.str name] = some (.ret [.bool (nameP has name)])) :
    PSpec C F89 [.agg (.str name :: r)] (.ret [.bool (!nameP has name)]) := by
  simp [PSpec, Body, F89, h]
theorem shape4_ok (C : Calls') (n : Int) (r : List PD) : PSpec C F91 [.agg (.int .i64 n :: r)] (.ret [.bool (decide (n < 1) || decide (n > 16))]) := by
  by_cases g : n < 1 <;> simp [PSpec, Body, F91, g]

def hasPre (s p : Str) : Bool := decide (p.length ≤ s.length) && (s.take p.length == p)
def trimPre (s p : Str) : Str := if hasPre s p then s.drop p.length else s
theorem hasPre_ok (C : Calls') (s p : Str) : PSpec C F105 [.str s, .str p] (.ret [.bool (hasPre s p)]) := by
  by_cases g : p.length ≤ s.length
  · have g' : (p.length : Int) ≤ s.length := by omega
    simp [PSpec, Body, F105, hasPre, g, g', boundO, subS, strOp]
  · have g' : ¬ (p.length : Int) ≤ s.length := by omega
    simp [PSpec, Body, F105, hasPre, g, g']
theorem trimPre0_ok (C : Calls') (s p : Str) (h : C.pure 105 [.str s, .str p] = some (.ret [.bool (hasPre s p)])) : PSpec C F97 [.str s, .str p] (.ret [.str (trimPre s p)]) := by
  simp [PSpec, Body, F97, h]
  refine Runs_split rfl ?_ ?_ <;> intro g
  · have g2 : p.length ≤ s.length := by simp [hasPre] at g; exact g.1
    simp [trimPre, g, subS, g2]
  · simp [trimPre, g]
theorem trimPre_ok (C : Calls') (s p : Str) (h : C.pure 97 [.str s, .str p] = some (.ret [.str (trimPre s p)])) : PSpec C F56 [.str s, .str p] (.ret [.str (trimPre s p)]) := by
  simp [PSpec, Body, F56, h]

/-- A number's digits. -/
def digs (n : Nat) : Str := if h : n < 10 then [(48 + n).toUInt8] else digs (n / 10) ++ [(48 + n % 10).toUInt8]
def dec (n : Int) : Str := if n < 0 then 45 :: digs n.natAbs else digs n.natAbs
def mu (n : Int) : Nat := 2 * n.natAbs + (if n < 0 then 1 else 0)
theorem digs_len : ∀ n : Nat, n < 100000000000000000000 → (digs n).length ≤ 20 := by
  have key : ∀ (k n : Nat), n < 10 ^ k → (digs n).length ≤ max k 1 := by
    intro k
    induction k with
    | zero => intro n hn; have : n = 0 := by omega
              subst this; simp [digs]
    | succ k ih =>
      intro n hn
      rw [digs]
      split
      · simp
      · have := ih (n / 10) (by rw [Nat.pow_succ] at hn; omega)
        rename_i h
        have hk : 1 ≤ k := by
          cases k with
          | zero => simp at hn; omega
          | succ k => omega
        simp; omega
  intro n hn
  have := key 20 n (by simpa using hn)
  simpa using this
theorem dec_len (n : Int) (h1 : -9223372036854775808 ≤ n) (h2 : n ≤ 9223372036854775807) : (dec n).length ≤ 21 := by
  have := digs_len n.natAbs (by omega)
  simp only [dec]
  split <;> simp <;> omega

theorem tdiv10 (n : Int) : n.tdiv 10 = if n < 0 then -((n.natAbs / 10 : Nat) : Int) else ((n.natAbs / 10 : Nat) : Int) := by
  obtain ⟨a, rfl | rfl⟩ := n.eq_nat_or_neg
  · rw [if_neg (by omega)]; simp [Int.tdiv]
  · rw [Int.neg_tdiv]
    by_cases h : a = 0
    · subst h; simp
    · rw [if_pos (by omega)]; simp [Int.tdiv]
theorem tmod10 (n : Int) : n.tmod 10 = if n < 0 then -((n.natAbs % 10 : Nat) : Int) else ((n.natAbs % 10 : Nat) : Int) := by
  obtain ⟨a, rfl | rfl⟩ := n.eq_nat_or_neg
  · rw [if_neg (by omega)]; simp [Int.tmod]
  · rw [Int.neg_tmod]
    by_cases h : a = 0
    · subst h; simp
    · rw [if_pos (by omega)]; simp [Int.tmod]

theorem wrap_i32' {n : Int} (h1 : 0 ≤ n) (h2 : n ≤ 1000) : IntKind.wrap .i32 n = n := by
  have e1 : (2 : Int) ^ IntKind.i32.bits = 4294967296 := by decide
  have e2 : (2 : Int) ^ (IntKind.i32.bits - 1) = 2147483648 := by decide
  have e3 : IntKind.i32.signed = true := rfl
  simp only [IntKind.wrap, e1, e2, e3, Bool.true_and, decide_eq_true_eq]
  split <;> omega

theorem dec_ok (C : Calls') (n : Int) (h1 : -9223372036854775808 ≤ n) (h2 : n ≤ 9223372036854775807)
    (hr : ∀ m, mu m < mu n → -9223372036854775808 ≤ m → m ≤ 9223372036854775807 → C.pure 95 [.int .i64 m] = some (.ret [.str (dec m)])) :
    PSpec C F95 [.int .i64 n] (.ret [.str (dec n)]) := by
  have w0 : IntKind.wrap .i64 0 = 0 := wrap_i64' (by omega) (by omega)
  have e0 := tdiv10 n
  have e1 := tmod10 n
  have hq : IntKind.wrap .i64 (n.tdiv 10) = n.tdiv 10 := by rw [wrap_i64'] <;> split at e0 <;> omega
  have hn : IntKind.wrap .i64 (-(n.tmod 10)) = -(n.tmod 10) := by rw [wrap_i64'] <;> split at e1 <;> omega
  obtain ⟨k, hk⟩ : ∃ k, n.natAbs % 10 = k := ⟨_, rfl⟩
  have hk10 : k < 10 := by omega
  have hmax : max (n.tmod 10) (-(n.tmod 10)) = (k : Int) := by split at e1 <;> omega
  have hw : IntKind.wrap .i64 (48 + (k : Int)) = 48 + (k : Int) := by rw [wrap_i64'] <;> omega
  have hw2 : IntKind.wrap .i32 (48 + (k : Int)) = 48 + (k : Int) := by rw [wrap_i32'] <;> omega
  have hlt : 0 ≤ 48 + (k : Int) ∧ 48 + (k : Int) < 128 := by omega
  have ht : (48 + (k : Int)).toNat = 48 + k := by omega
  by_cases g0 : n < 0 ∧ n.tdiv 10 = 0
  · obtain ⟨g1, g2⟩ := g0
    have e : IntKind.wrap .i64 (-n) = -n := by rw [wrap_i64'] <;> rw [if_pos g1] at e0 <;> omega
    have h3 := hr (-n) (by simp only [mu]; rw [if_pos g1, if_neg (by omega)]; omega) (by omega) (by rw [if_pos g1] at e0; omega)
    have hl := dec_len (-n) (by omega) (by rw [if_pos g1] at e0; omega)
    have hl' : 1 + (dec (-n)).length ≤ 9223372036854775807 := by omega
    have e2 : dec n = 45 :: dec (-n) := by
      simp only [dec, g1, if_true, Int.natAbs_neg]; rw [if_neg (by omega)]
    simp [PSpec, Body, F95, g1, hq, w0, g2, e, h3, strOp, hl', e2]
  · have e3 : (decide (n < 0) && (n.tdiv 10 == 0)) = false := by
      cases hc : (decide (n < 0) && (n.tdiv 10 == 0))
      · rfl
      · simp at hc; exact (g0 hc).elim
    by_cases g2 : n.tdiv 10 = 0
    · have g1 : ¬ n < 0 := fun h => g0 ⟨h, g2⟩
      have e4 : dec n = [(48 + k).toUInt8] := by
        simp only [dec, g1, if_false]
        have : n.natAbs < 10 := by rw [if_neg g1] at e0; omega
        rw [digs, dif_pos this, ← hk, Nat.mod_eq_of_lt this]
      simp [PSpec, Body, F95, g1, hq, w0, g2, e4, hn, hmax, hw, hw2, hlt, ht, minmaxI]
    · have hd : dec n = dec (n.tdiv 10) ++ [(48 + k).toUInt8] := by
        have h10 : ¬ n.natAbs < 10 := by split at e0 <;> omega
        have ea : (n.tdiv 10).natAbs = n.natAbs / 10 := by split at e0 <;> omega
        have en : n.tdiv 10 < 0 ↔ n < 0 := by split at e0 <;> omega
        simp only [dec, ea]
        rw [show digs n.natAbs = digs (n.natAbs / 10) ++ [(48 + k).toUInt8] from by rw [digs, dif_neg h10, hk]]
        by_cases g1 : n < 0
        · rw [if_pos g1, if_pos (en.mpr g1)]; rfl
        · rw [if_neg g1, if_neg (fun h => g1 (en.mp h))]
      have h3 := hr (n.tdiv 10) (by simp only [mu]; split at e0 <;> (repeat' split) <;> omega) (by split at e0 <;> omega) (by split at e0 <;> omega)
      have hl := dec_len (n.tdiv 10) (by split at e0 <;> omega) (by split at e0 <;> omega)
      have hl' : (dec (n.tdiv 10)).length + 1 ≤ 9223372036854775807 := by omega
      by_cases g1 : n < 0
      · simp [PSpec, Body, F95, g1, hq, w0, g2, hn, hmax, hw, hw2, hlt, ht, minmaxI, h3, strOp, hl', hd]
      · simp [PSpec, Body, F95, g1, hq, w0, g2, hn, hmax, hw, hw2, hlt, ht, minmaxI, h3, strOp, hl', hd]

end Go.Proofs.YtkcbomohgbafoaaDoor
/- The specifications of Literal and of the walk over an expression. -/
set_option linter.unusedSimpArgs false
namespace Go.Proofs.YtkcbomohgbafoaaDoor
open Go

/-- Quotes are doubled. -/
def quoted (s : Str) : Str := s.flatMap fun c => if c = 39 then [39, 39] else [c]
theorem quoted_len (s : Str) : (quoted s).length ≤ 2 * s.length := by
  induction s with
  | nil => simp [quoted]
  | cons c s ih =>
    have e : quoted (c :: s) = (if c = 39 then [39, 39] else [c]) ++ quoted s := by simp [quoted]
    rw [e]
    by_cases h : c = 39 <;> simp [h] <;> omega
def wNULL : Str := [78, 85, 76, 76]
def wFALSE : Str := [70, 65, 76, 83, 69]
def wTRUE : Str := [84, 82, 85, 69]
def litP (v : VX) : Str :=
  if v.kind = 0 then wNULL
  else if v.kind = 1 then dec v.n
  else if v.kind = 2 then (if v.n = 0 then wFALSE else wTRUE)
  else [39] ++ quoted v.text ++ [39]

theorem lit_ok (C : Calls') (v : VX) (hn : v.kind = 2 → v.n = 0 ∨ v.n = 1) (ht : v.text.length ≤ 1000000000)
    (h95 : C.pure 95 [.int .i64 v.n] = some (.ret [.str (dec v.n)]))
    (h96 : C.pure 96 [.str v.text, .str [39], .str [39, 39]] = some (.ret [.str (quoted v.text)])) :
    PSpec C F55 [v.pd] (.ret [.str (litP v)]) := by
  obtain ⟨k, n, t⟩ := v
  simp only at hn ht h95 h96
  have hq := quoted_len t
  by_cases h0 : k = 0
  · subst h0; simp [PSpec, Body, F55, VX.pd, litP, wNULL]
  by_cases h1 : k = 1
  · subst h1; simp [PSpec, Body, F55, VX.pd, litP, h95]
  by_cases h2 : k = 2
  · subst h2
    rcases hn rfl with rfl | rfl <;> simp [PSpec, Body, F55, VX.pd, litP, mkAgg, wFALSE, wTRUE]
  have l1 : 1 + (quoted t).length ≤ 9223372036854775807 := by omega
  have l2 : (quoted t).length ≤ 9223372036854775805 := by omega
  simp [PSpec, Body, F55, VX.pd, litP, h0, h1, h2, h96, strOp, l1, l2]

/-- The walk over an expression: how many parts have been seen, or what was panicked with. -/
inductive WR where
  | ok (w : Int)
  | pan (w : Int) (e : Int)
mutual
def walkP (has : Str → Str → Bool) (e : EX) (w : Int) (level : Int) : WR :=
  match e with
  | .mk op v t n args =>
    if ¬ level ≤ 12 then .pan w 10
    else if ¬ w < 64 then .pan w 3
    else if partP has (.mk op v t n args) = false then .pan w 9
    else walksP has args (w + 1) (level + 1)
def walksP (has : Str → Str → Bool) (l : List EX) (w : Int) (level : Int) : WR :=
  match l with
  | [] => .ok w
  | e :: r =>
    match walkP has e w level with
    | .ok w' => walksP has r w' level
    | .pan w' d => .pan w' d
end

end Go.Proofs.YtkcbomohgbafoaaDoor
/- The specification of the walk over an expression. -/
set_option linter.unusedSimpArgs false
namespace Go.Proofs.YtkcbomohgbafoaaDoor
open Go

def WR.w : WR → Int
  | .ok w => w
  | .pan w _ => w
def WR.out : WR → Out
  | .ok _ => .ret (.tup [])
  | .pan _ e => .pan (.iface 28 (.int .i64 e))

theorem drop_of {p : Id} {h : Heap} {i : Id} {o : AObj} (hi : drop p h i = some o) : h i = some o ∧ ¬ p <+: i := by
  unfold drop at hi
  split at hi
  · simp at hi
  · rename_i hn
    exact ⟨hi, fun hp => hn (List.isPrefixOf_iff_prefix.mpr hp)⟩
theorem drop_at {p : Id} {h : Heap} {i : Id} (hi : ¬ p <+: i) : drop p h i = h i := by
  unfold drop
  rw [if_neg (fun hp => hi (List.isPrefixOf_iff_prefix.mp hp))]
theorem not_pre {p i : Id} (h : ¬ p <+: i) (k : Nat) : i ≠ p ++ [k] := fun e => h (e ▸ List.prefix_append p [k])
theorem not_pre2 {p i : Id} (h : ¬ p <+: i) (k : Nat) : ¬ (p ++ [k]) <+: i := fun e => h (List.IsPrefix.trans (List.prefix_append p [k]) e)

/-- A heap in which all else is as it was. -/
def Kept (h : Heap) (pre wid : Id) (w : Int) (H : Heap) : Prop := H wid = some (.box [.data (.int .i64 w)]) ∧ ∀ j, j ≠ wid → ¬ pre <+: j → H j = h j
theorem Kept.sub {h : Heap} {pre wid : Id} {w : Int} {H : Heap} (hk : Kept h pre wid w H) : drop pre H = drop pre (upd h wid (.box [.data (.int .i64 w)])) := by
  funext i
  by_cases hp : pre <+: i
  · simp [drop, List.isPrefixOf_iff_prefix.mpr hp]
  · rw [drop_at hp, drop_at hp]
    simp only [upd]
    split
    · rename_i e; subst e; exact hk.1
    · rename_i e; exact hk.2 i e hp
theorem Kept.local {h : Heap} {pre wid : Id} {w : Int} {H : Heap} (hk : Kept h pre wid w H) (hp : ¬ pre <+: wid) (k : Nat) (o : AObj) : Kept h pre wid w (upd H (pre ++ [k]) o) := by
  refine ⟨?_, fun j h1 h2 => ?_⟩
  · simp only [upd]; rw [if_neg (not_pre hp k)]; exact hk.1
  · simp only [upd]; rw [if_neg (not_pre h2 k)]; exact hk.2 j h1 h2
theorem Kept.set {h : Heap} {pre wid : Id} {w : Int} {H : Heap} (hk : Kept h pre wid w H) (w' : Int) : Kept h pre wid w' (upd H wid (.box [.data (.int .i64 w')])) := by
  refine ⟨by simp [upd], fun j h1 h2 => ?_⟩
  simp only [upd]; rw [if_neg h1]; exact hk.2 j h1 h2
theorem Kept.drop {h : Heap} {pre wid : Id} {w : Int} {H : Heap} (hk : Kept h pre wid w H) (hp : ¬ pre <+: wid) (k : Nat) : Kept h pre wid w (Proofs.YtkcbomohgbafoaaDoor.drop (pre ++ [k]) H) := by
  refine ⟨?_, fun j h1 h2 => ?_⟩
  · rw [drop_at (not_pre2 hp k)]; exact hk.1
  · rw [drop_at (not_pre2 h2 k)]; exact hk.2 j h1 h2

mutual
theorem walkP_le (has : Str → Str → Bool) : ∀ (e : EX) (w l x : Int), walkP has e w l = .ok x → w + 1 ≤ x ∧ x ≤ 64
  | .mk op v t n args, w, l, x, h => by
    simp only [walkP] at h
    split at h
    · simp at h
    · split at h
      · simp at h
      · split at h
        · simp at h
        · rename_i h1 h2 h3
          have := walksP_le has args (w + 1) (l + 1) x (by omega) h
          omega
theorem walksP_le (has : Str → Str → Bool) : ∀ (es : List EX) (w l x : Int), w ≤ 64 → walksP has es w l = .ok x → w ≤ x ∧ x ≤ 64
  | [], w, l, x, hw, h => by simp only [walksP, WR.ok.injEq] at h; omega
  | e :: r, w, l, x, hw, h => by
    simp only [walksP] at h
    split at h
    · rename_i w' hq
      have h1 := walkP_le has e w l w' hq
      have h2 := walksP_le has r w' l x (by omega) h
      omega
    · simp at h
end

theorem walk_ok (C : Calls') (has : Str → Str → Bool) (e : EX) (w level : Int) (h : Heap) (pre wid : Id)
    (hw : h wid = some (.box [.data (.int .i64 w)])) (hp : ¬ pre <+: wid) (hw1 : 0 ≤ w) (hl1 : 0 ≤ level) (hl2 : level ≤ 1000)
    (hlen : e.args.length ≤ 9223372036854775807)
    (h93 : ∀ ok d, C.pure 93 [.bool ok, .int .i64 d] = some (if ok then .ret [] else .pan (.iface 28 (.int .i64 d))))
    (h94 : C.pure 94 [e.pd] = some (.ret [.bool (partP has e)]))
    (hr : ∀ a w' level' h' pre', a ∈ e.args → 0 ≤ w' → w' ≤ 64 → 0 ≤ level' → level' ≤ 1000 → h' wid = some (.box [.data (.int .i64 w')]) → ¬ pre' <+: wid →
      (C.shared 54 [.ptr wid 0, .data a.pd, .data (.int .i64 level')] h' pre').map (after pre') = some ((walkP has a w' level').out, Proofs.YtkcbomohgbafoaaDoor.drop pre' (upd h' wid (.box [.data (.int .i64 (walkP has a w' level').w)])))) :
    SSpec C F54 [.ptr wid 0, .data e.pd, .data (.int .i64 level)] h pre (walkP has e w level).out (upd h wid (.box [.data (.int .i64 (walkP has e w level).w)])) := by
  have hk0 : Kept h pre wid w h := ⟨hw, fun j _ _ => rfl⟩
  obtain ⟨op, v, tbl, name, args⟩ := e
  by_cases g1 : level ≤ 12
  case neg =>
    have e1 : walkP has (.mk op v tbl name args) w level = .pan w 10 := by simp [walkP, g1]
    rw [e1]
    simp [SSpec, Body, F54, EX.pd, g1, h93]
    exact ⟨rfl, Kept.sub (hk0.local hp _ _)⟩
  have hp' : ∀ k, wid ≠ pre ++ [k] := not_pre hp
  by_cases g2 : w < 64
  case neg =>
    have e1 : walkP has (.mk op v tbl name args) w level = .pan w 3 := by simp [walkP, g1, g2]
    rw [e1]
    simp [SSpec, Body, F54, EX.pd, g1, h93, hp', hw, g2]
    exact ⟨rfl, Kept.sub (hk0.local hp _ _)⟩
  cases g3 : partP has (.mk op v tbl name args)
  · have e1 : walkP has (.mk op v tbl name args) w level = .pan w 9 := by simp [walkP, g1, g2, g3]
    rw [e1]
    simp only [EX.pd] at h94
    simp [SSpec, Body, F54, EX.pd, g1, h93, hp', hw, g2, mkAgg, h94, g3]
    exact ⟨rfl, Kept.sub (hk0.local hp _ _)⟩
  have e1 : walkP has (.mk op v tbl name args) w level = walksP has args (w + 1) (level + 1) := by simp [walkP, g1, g2, g3]
  rw [e1]
  simp only [EX.pd] at h94
  have ew : IntKind.wrap .i64 (w + 1) = w + 1 := by rw [wrap_i64'] <;> omega
  have hp'' : ∀ k, pre ++ [k] ≠ wid := fun k e => hp' k e.symm
  simp only [EX.args] at hlen hr
  simp [SSpec, Body, F54, EX.pd, g1, h93, hp', hp'', hw, g2, mkAgg, h94, g3, ew, EX.pds_len]
  refine Runs_loop_ind (fun m t => ∃ i nx : Nat, ∃ w' H, i + m = args.length ∧ walksP has args (w + 1) (level + 1) = walksP has (args.drop i) w' (level + 1) ∧ 0 ≤ w' ∧ w' ≤ 64 ∧ Kept h pre wid w' H ∧ t = { env := upd (upd (upd (upd (upd (fun _ => none) 27 (.data (.int .i64 i))) 26 (.data (.int .i64 args.length))) 25 (.data (.list (EX.pds args)))) 2 (.data (.int .i64 level))) 0 (.ptr wid 0), heap := H, pre := pre, next := nx }) (n := args.length)
    ⟨0, _, w + 1, _, by simp, by simp, by omega, by omega, (hk0.local hp 0 _).set (w + 1), rfl⟩ ?_
  rintro m t ⟨i, nx, w', H, hi, hws, hw0, hw64, hk, rfl⟩ ih
  simp
  refine Runs_split rfl ?_ ?_ <;> intro hc <;> simp at hc
  · obtain ⟨a, ha⟩ : ∃ a, args[i]? = some a := ⟨_, List.getElem?_eq_getElem hc⟩
    have ha' : (EX.pds args)[i]? = some a.pd := by rw [EX.pds_eq, List.getElem?_map, ha]; rfl
    have hdrop : args.drop i = a :: args.drop (i + 1) := by
      obtain ⟨hi', rfl⟩ := List.getElem?_eq_some_iff.mp ha
      exact (List.drop_eq_getElem_cons hi')
    have hi1 : IntKind.wrap .i64 ((i : Int) + 1) = ((i + 1 : Nat) : Int) := by rw [wrap_i64'] <;> omega
    have hl1' : IntKind.wrap .i64 (level + 1) = level + 1 := by rw [wrap_i64'] <;> omega
    have hcall : ∀ (h' : Heap) (pre' : Id), h' wid = some (.box [.data (.int .i64 w')]) → ¬ pre' <+: wid → (C.shared 54 [.ptr wid 0, .data a.pd, .data (.int .i64 (level + 1))] h' pre').map (after pre') = some ((walkP has a w' (level + 1)).out, Proofs.YtkcbomohgbafoaaDoor.drop pre' (upd h' wid (.box [.data (.int .i64 (walkP has a w' (level + 1)).w)]))) :=
      fun h' pre' q1 q2 => hr a w' (level + 1) h' pre' (List.mem_of_getElem? ha) hw0 hw64 (by omega) (by omega) q1 q2
    have hww : ∀ x, walkP has a w' (level + 1) = .ok x → 0 ≤ x ∧ x ≤ 64 := fun x hx => by have := walkP_le has a w' (level + 1) x hx; omega
    have hnp := not_pre2 hp
    have hk1 := hk.1
    obtain ⟨aop, av, atb, an, aargs⟩ := a
    simp only [EX.pd] at hcall ha'
    cases hq : walkP has (.mk aop av atb an aargs) w' (level + 1) with
    | ok x =>
      simp only [hq, WR.out, WR.w] at hcall
      have hs2 : walksP has args (w + 1) (level + 1) = walksP has (args.drop (i + 1)) x (level + 1) := by rw [hws, hdrop, walksP, hq]
      simp [hc, ha', mkAgg, hl1', hcall, hp', hp'', hk1, hnp, hi1, hasYld]
      exact ih (m - 1) _ (by omega) ⟨i + 1, _, x, _, by omega, hs2, (hww x hq).1, (hww x hq).2, (((hk.local hp _ _).local hp _ _).set x).drop hp _, rfl⟩
    | pan x d =>
      simp only [hq, WR.out, WR.w] at hcall
      have hs2 : walksP has args (w + 1) (level + 1) = .pan x d := by rw [hws, hdrop, walksP, hq]
      rw [hs2]
      simp [hc, ha', mkAgg, hl1', hcall, hp', hp'', hk1, hnp, hi1, hasYld]
      exact ⟨rfl, Kept.sub ((((hk.local hp _ _).local hp _ _).set x).drop hp _)⟩
  · have : i = args.length := by omega
    subst this
    have e2 : walksP has args (w + 1) (level + 1) = .ok w' := by rw [hws]; simp [walksP]
    simp [e2]
    exact ⟨rfl, hk.sub⟩

end Go.Proofs.YtkcbomohgbafoaaDoor
/- The specifications of told and of CheckExpr. -/
set_option linter.unusedSimpArgs false
namespace Go.Proofs.YtkcbomohgbafoaaDoor
open Go

/-- What told leaves of the caller's heap. -/
def toldH (u : Option PD) (fid : Id) (h : Heap) : Heap :=
  match u with
  | some (.iface 28 (.int .i64 e)) => upd h fid (.box [.data (.int .i64 e)])
  | _ => h

theorem told_some (C : Calls') (e x : Int) (h : Heap) (pre fid : Id) (hf : h fid = some (.box [.data (.int .i64 x)])) :
    SSpec C F53 [.data (.iface 28 (.int .i64 e)), .ptr fid 0] h pre (.ret (.tup [])) (upd h fid (.box [.data (.int .i64 e)])) := by
  simp [SSpec, Body, F53, hf, SubH]
theorem told_none (C : Calls') (h : Heap) (pre fid : Id) :
    SSpec C F53 [.data .nilI, .ptr fid 0] h pre (.ret (.tup [])) h := by
  simp [SSpec, Body, F53, SubH]

theorem drop_twice {pre : Id} {k : Nat} (H : Heap) : drop pre (drop (pre ++ [k]) H) = drop pre H := by
  funext i
  by_cases hp : pre <+: i
  · simp [drop, List.isPrefixOf_iff_prefix.mpr hp]
  · rw [drop_at hp, drop_at hp, drop_at (not_pre2 hp k)]

theorem ce1_some (C : Calls') (e : Int) (h : Heap) (pre fid : Id)
    (h53 : ∀ pre', (C.shared 53 [.data (.iface 28 (.int .i64 e)), .ptr fid 0] h pre').map (after pre') = some (.ret (.tup []), drop pre' (upd h fid (.box [.data (.int .i64 e)])))) :
    DSpec C F52 [.ptr fid 0] (some (.iface 28 (.int .i64 e))) h pre (upd h fid (.box [.data (.int .i64 e)])) := by
  refine ⟨rfl, rfl, rfl, ?_⟩
  simp [F52, h53, hasYld]
  exact ⟨.inl rfl, rfl, rfl, drop_twice _⟩
theorem ce1_none (C : Calls') (h : Heap) (pre fid : Id)
    (h53 : ∀ pre', (C.shared 53 [.data .nilI, .ptr fid 0] h pre').map (after pre') = some (.ret (.tup []), drop pre' h)) :
    DSpec C F52 [.ptr fid 0] none h pre h := by
  refine ⟨rfl, rfl, rfl, ?_⟩
  simp [F52, h53, hasYld]
  exact ⟨.inl rfl, rfl, rfl, drop_twice _⟩

def checkP (has : Str → Str → Bool) (e : EX) : Int :=
  match walkP has e 0 1 with
  | .ok _ => 0
  | .pan _ d => d
theorem check_ok (C : Calls') (has : Str → Str → Bool) (e : EX)
    (h54 : ∀ h pre wid, h wid = some (.box [.data (.int .i64 0)]) → ¬ pre <+: wid →
      (C.shared 54 [.ptr wid 0, .data e.pd, .data (.int .i64 1)] h pre).map (after pre) = some ((walkP has e 0 1).out, drop pre (upd h wid (.box [.data (.int .i64 (walkP has e 0 1).w)]))))
    (h52 : ∀ d x h pre fid, h fid = some (.box [.data (.int .i64 x)]) → ¬ pre <+: fid → C.dfr 52 [.ptr fid 0] (some (.iface 28 (.int .i64 d))) h pre = some (drop pre (upd h fid (.box [.data (.int .i64 d)]))))
    (h52n : ∀ h pre fid, C.dfr 52 [.ptr fid 0] none h pre = some (drop pre h)) :
    PSpec C F21 [e.pd] (.ret [.int .i64 (checkP has e)]) := by
  obtain ⟨aop, av, atb, an, aargs⟩ := e
  simp only [EX.pd] at h54
  cases hq : walkP has (.mk aop av atb an aargs) 0 1 with
  | ok x =>
    simp only [hq, WR.out, WR.w] at h54
    simp [PSpec, Body, F21, EX.pd, mkAgg, h54, h52n, hasYld, checkP, hq, drop, List.isPrefixOf]
  | pan x d =>
    simp only [hq, WR.out, WR.w] at h54
    simp [PSpec, Body, F21, EX.pd, mkAgg, h54, h52, hasYld, checkP, hq, drop, List.isPrefixOf]

theorem num_ok (C : Calls') (n : Int) : PSpec C F10 [.int .i64 n] (.ret [.int .i64 n]) := by
  simp [PSpec, Body, F10]

theorem print_ok (C : Calls') (has : Str → Str → Bool) (pr : EX → Str) (e : EX)
    (h21 : C.pure 21 [e.pd] = some (.ret [.int .i64 (checkP has e)]))
    (h22 : checkP has e = 0 → C.pure 22 [e.pd] = some (.ret [.str (pr e)])) :
    PSpec C F9 [e.pd] (.ret (if checkP has e = 0 then [.str (pr e), .int .i64 0] else [.str [], .int .i64 (checkP has e)])) := by
  by_cases g : checkP has e = 0
  · have h22' := h22 g
    rw [g] at h21
    obtain ⟨aop, av, atb, an, aargs⟩ := e
    simp only [EX.pd] at h21 h22'
    simp [PSpec, Body, F9, EX.pd, mkAgg, h21, h22', g]
  · obtain ⟨aop, av, atb, an, aargs⟩ := e
    simp only [EX.pd] at h21
    simp [PSpec, Body, F9, EX.pd, mkAgg, h21, g]

end Go.Proofs.YtkcbomohgbafoaaDoor
