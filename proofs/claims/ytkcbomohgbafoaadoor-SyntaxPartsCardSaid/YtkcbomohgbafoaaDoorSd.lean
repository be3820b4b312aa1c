/- What exprs goes over, and with a yield. -/
import Derived.Test.YtkcbomohgbafoaaDoorSc
set_option linter.unusedSimpArgs false
namespace Go.Proofs.YtkcbomohgbafoaaDoor
open Go

/-- All of a statement's lists of expressions, in order. -/
def listsOf (x : SX) : List (List EX) := x.rows ++ x.sets.map (fun t => [t.e]) ++ [x.items, x.on, x.wher, x.group]
/-- The first fault among some. -/
def firstBad (has : Str → Str → Bool) : List EX → Int
  | [] => 0
  | e :: r => if checkP has e = 0 then firstBad has r else checkP has e
theorem firstBad_append (has : Str → Str → Bool) : ∀ (a b : List EX), (∀ e ∈ a, checkP has e = 0) → firstBad has (a ++ b) = firstBad has b
  | [], b, _ => rfl
  | e :: a, b, h => by
    simp only [List.cons_append, firstBad, h e (by simp), if_true]
    exact firstBad_append has a b fun e he => h e (by simp [he])

/-- What slices.Clone gives: a row of its own. -/
def cloneR (l : List PD) (pre : Id) (h : Heap) : Out × Heap := if l.isEmpty then (.ret (.full []), h) else (.ret (.acc l (pre ++ [5])), upd h (pre ++ [5]) (.tok 24 1 l.length))

/-- A name that has been given in a call's first steps. -/
def OwnId (pre : Id) (nx : Nat) (t : Id) : Prop := ∃ k rest, k < nx ∧ t = pre ++ k :: rest
theorem OwnId.mono {pre : Id} {a b : Nat} {t : Id} (h : OwnId pre a t) (hab : a ≤ b) : OwnId pre b t := by
  obtain ⟨k, r, h1, h2⟩ := h
  exact ⟨k, r, by omega, h2⟩
theorem OwnId.ne {pre : Id} {nx n : Nat} {t : Id} (h : OwnId pre nx t) (hn : nx ≤ n) : t ≠ pre ++ [n] := by
  rintro rfl
  obtain ⟨k, r, h1, h2⟩ := h
  have := List.append_cancel_left h2
  simp at this
  omega
theorem OwnId.not_pre {pre : Id} {nx n : Nat} {t : Id} (h : OwnId pre nx t) (hn : nx ≤ n) : ¬ (pre ++ [n]) <+: t := by
  rintro ⟨z, hz⟩
  obtain ⟨k, r, h1, h2⟩ := h
  rw [h2, List.append_assoc] at hz
  have := List.append_cancel_left hz
  simp at this
  omega
/-- A row that grows. -/
def Row (e sz : Nat) (pre : Id) (nx : Nat) (L : List PD) (H : Heap) (r : RV) : Prop := (L = [] ∧ r = .full []) ∨ (L ≠ [] ∧ ∃ t, OwnId pre nx t ∧ r = .acc L t ∧ H t = some (.tok e sz L.length))
theorem Row.mono {e sz : Nat} {pre : Id} {a b : Nat} {L : List PD} {H : Heap} {r : RV} (h : Row e sz pre a L H r) (hab : a ≤ b) : Row e sz pre b L H r := by
  rcases h with h | ⟨h1, t, h2, h3⟩
  · exact .inl h
  · exact .inr ⟨h1, t, h2.mono hab, h3⟩
/-- All that isn't one's own is as it was. -/
def Rest0 (pre : Id) (h H : Heap) : Prop := ∀ j, ¬ pre <+: j → H j = h j
theorem Rest0.set {pre : Id} {h H : Heap} (hk : Rest0 pre h H) (k : Nat) (rest : Id) (o : AObj) : Rest0 pre h (upd H (pre ++ k :: rest) o) := by
  intro j hj
  simp only [upd]
  rw [if_neg (fun e => hj (by rw [e]; exact List.prefix_append pre _))]
  exact hk j hj
theorem Rest0.drop {pre : Id} {h H : Heap} (hk : Rest0 pre h H) (k : Nat) : Rest0 pre h (drop (pre ++ [k]) H) := by
  intro j hj
  rw [drop_at (not_pre2 hj k)]
  exact hk j hj
theorem Rest0.eq {pre : Id} {h H : Heap} (hk : Rest0 pre h H) : YtkcbomohgbafoaaDoor.drop pre H = YtkcbomohgbafoaaDoor.drop pre h := by
  funext i
  by_cases hp : pre <+: i
  · simp [YtkcbomohgbafoaaDoor.drop, List.isPrefixOf_iff_prefix.mpr hp]
  · rw [drop_at hp, drop_at hp]; exact hk i hp

/-- The heap behind a fault. -/
def badH (h : Heap) (r fid : Id) (d : Int) : Heap := upd (upd h fid (.box [.data (.int .i64 d)])) r (.lrec (.done .ret))

def setCells (t : TX) : List PD := .str t.name :: t.e.cells

/-- The code behind the first lists. -/
def rest51 : ICode := match F51.body with | .seq _ (.seq _ c) => c | c => c

theorem Rest0.bad {pre : Id} {h H : Heap} (hk : Rest0 pre h H) (r fid : Id) (d : Int) : Rest0 pre (badH h r fid d) (badH H r fid d) := by
  intro j hj
  simp only [badH, upd]
  split
  · rfl
  · split
    · rfl
    · exact hk j hj
/-- What is asked of the call of exprs. -/
structure EH (Y : Yld) (has : Str → Str → Bool) (x : SX) (h : Heap) (pre r fid : Id) (v0 : Int) : Prop where
  hr : h r = some (.lrec .ready)
  hf : h fid = some (.box [.data (.int .i64 v0)])
  hpr : ¬ pre <+: r
  hpf : ¬ pre <+: fid
  hb1 : x.rows.length ≤ 100000
  hb2 : x.sets.length ≤ 100000
  hb3 : ∀ l ∈ listsOf x, l.length ≤ 9223372036854775807
  hY : ∀ l ∈ listsOf x, ∀ e ∈ l, ∀ h' id, h' r = some (.lrec .ready) → h' fid = some (.box [.data (.int .i64 v0)]) → ¬ id <+: r → ¬ id <+: fid →
      Y r [.data e.pd] h' id = some (.data (.bool (checkP has e == 0)), drop id (if checkP has e = 0 then h' else badH h' r fid (checkP has e)))

/-- The code that goes over all lists. -/
def walk51 : ICode := match F51.body with | .seq _ (.seq _ (.seq _ (.seq _ c))) => c | c => c

set_option maxHeartbeats 4000000 in
theorem exprs_walk (C : Calls') (Y : Yld) (has : Str → Str → Bool) (x : SX) (h : Heap) (pre r fid : Id) (v0 : Int) (hE : EH Y has x h pre r fid v0) (LL : List PD) (hLL : LL = (listsOf x).map rowPD) (hlen : LL.length ≤ 9223372036854775807) (t : Id) (H : Heap) (nx : Nat) (hRest : Rest0 pre h H) :
    Runs { C with yield := Y } walk51 [] { env := upd (upd (upd (upd (fun _ => none) 40 (.data (.int .i64 0))) 39 (.data (.int .i64 LL.length))) 38 (.acc LL t)) 1 (.yld r), heap := H, pre := pre, next := nx } (Fin { C with yield := Y } [] (SubH pre (.ret (.tup [])) (if firstBad has (listsOf x).flatten = 0 then h else badH h r fid (firstBad has (listsOf x).flatten)))) := by
  obtain ⟨hr, hf, hpr, hpf, hb1, hb2, hb3, hY⟩ := hE
  simp [walk51, F51]
  refine Runs_loop_ind (fun m s => ∃ i nx : Nat, ∃ H, i + m = LL.length ∧ firstBad has (listsOf x).flatten = firstBad has ((listsOf x).drop i).flatten ∧ Rest0 pre h H ∧
     s = { env := upd (upd (upd (upd (fun _ => none) 40 (.data (.int .i64 i))) 39 (.data (.int .i64 LL.length))) 38 (.acc LL t)) 1 (.yld r), heap := H, pre := pre, next := nx }) (n := LL.length)
    ⟨0, _, H, by simp, by simp, hRest, rfl⟩ ?_
  clear hRest H nx
  rintro m s ⟨i, nx, H, hi, hfb, hRest, rfl⟩ ih
  simp
  refine Runs_split rfl ?_ ?_ <;> intro hc <;> simp at hc
  · obtain ⟨es, he⟩ : ∃ es, (listsOf x)[i]? = some es := ⟨_, List.getElem?_eq_getElem (by rw [hLL] at hc; simpa using hc)⟩
    have hem := List.mem_of_getElem? he
    have hel := hb3 es hem
    have hi1 : IntKind.wrap .i64 ((i : Int) + 1) = ((i + 1 : Nat) : Int) := by rw [wrap_i64'] <;> omega
    have he' : LL[i]? = some (.list (EX.pds es)) := by rw [hLL, List.getElem?_map, he]; rfl
    have hdrop : (listsOf x).drop i = es :: (listsOf x).drop (i + 1) := by
      obtain ⟨hi', rfl⟩ := List.getElem?_eq_some_iff.mp he
      exact List.drop_eq_getElem_cons hi'
    simp [he', EX.pds_len]
    refine Runs_loop_ind (fun m s => ∃ j nx : Nat, ∃ H, j + m = es.length ∧ firstBad has (listsOf x).flatten = firstBad has (es.drop j ++ ((listsOf x).drop (i + 1)).flatten) ∧ Rest0 pre h H ∧
      s = { env := upd (upd (upd (upd (upd (upd (upd (fun _ => none) 46 (.data (.int .i64 j))) 45 (.data (.int .i64 es.length))) 44 (.data (.list (EX.pds es)))) 40 (.data (.int .i64 i))) 39 (.data (.int .i64 LL.length))) 38 (.acc LL t)) 1 (.yld r), heap := H, pre := pre, next := nx }) (n := es.length)
      ⟨0, _, H, by simp, by rw [hfb, hdrop]; simp, hRest, rfl⟩ ?_
    clear hRest H nx
    rintro m2 s ⟨j, nx, H, hj, hfj, hRest, rfl⟩ ih2
    simp
    refine Runs_split rfl ?_ ?_ <;> intro hc2 <;> simp at hc2
    · obtain ⟨e, hej⟩ : ∃ e, es[j]? = some e := ⟨_, List.getElem?_eq_getElem hc2⟩
      have hj1 : IntKind.wrap .i64 ((j : Int) + 1) = ((j + 1 : Nat) : Int) := by rw [wrap_i64'] <;> omega
      have hej' : (EX.pds es)[j]? = some e.pd := by rw [EX.pds_eq, List.getElem?_map, hej]; rfl
      have hdrop2 : es.drop j = e :: es.drop (j + 1) := by
        obtain ⟨hi', rfl⟩ := List.getElem?_eq_some_iff.mp hej
        exact List.drop_eq_getElem_cons hi'
      have hcall := hY es hem e (List.mem_of_getElem? hej)
      rw [hdrop2] at hfj
      simp only [List.cons_append, firstBad] at hfj
      obtain ⟨q, hq⟩ : ∃ q, checkP has e = q := ⟨_, rfl⟩
      rw [hq] at hcall hfj
      have hr' : H r = some (.lrec .ready) := by rw [hRest r hpr]; exact hr
      have hf' : H fid = some (.box [.data (.int .i64 v0)]) := by rw [hRest fid hpf]; exact hf
      obtain ⟨aop, av, atb, ann, aargs⟩ := e
      simp only [EX.pd] at hcall hej'
      have n1 := not_pre hpr
      have n2 := not_pre hpf
      by_cases hq0 : q = 0
      · subst hq0
        simp only [beq_self_eq_true, if_true] at hcall hfj
        simp [hej', mkAgg, hcall, hr', hf', n1, n2, not_pre2 hpr, not_pre2 hpf, hj1]
        exact ih2 (m2 - 1) _ (by omega) ⟨j + 1, _, _, by omega, hfj, ((hRest.set _ [] _).set _ [] _).drop _, rfl⟩
      · have hqb : (q == 0) = false := by simpa using hq0
        simp only [hqb, if_neg hq0] at hcall hfj
        simp [hej', mkAgg, hcall, hr', hf', n1, n2, not_pre2 hpr, not_pre2 hpf, hj1, hfj, hq0]
        exact ⟨rfl, ((((hRest.set _ [] _).set _ [] _).bad r fid q).drop _).eq⟩
    · have hje : j = es.length := by omega
      subst hje
      simp [hi1]
      exact ih (m - 1) _ (by omega) ⟨i + 1, _, H, by omega, by rw [hfj]; simp, hRest, rfl⟩
  · have hie : i = LL.length := by omega
    subst hie
    have hd0 : (listsOf x).drop LL.length = [] := by rw [hLL]; simp
    rw [hd0] at hfb
    simp only [List.flatten_nil, firstBad] at hfb
    simp [hfb]
    exact ⟨rfl, hRest.eq⟩

set_option maxHeartbeats 4000000 in
theorem exprs_rest (C : Calls') (Y : Yld) (has : Str → Str → Bool) (x : SX) (h : Heap) (pre r fid : Id) (v0 : Int) (hE : EH Y has x h pre r fid v0) (R : RV) (H : Heap) (nx : Nat) (hRow : Row 24 1 pre nx (rowsPD x.rows) H R) (hbox : H (pre ++ [0]) = some (.box (x.cells.map .data))) (hRest : Rest0 pre h H) (hnx : 0 < nx) :
    Runs { C with yield := Y } rest51 [] { env := upd (upd (upd (fun _ => none) 4 R) 2 (.ptr (pre ++ [0]) 0)) 1 (.yld r), heap := H, pre := pre, next := nx } (Fin { C with yield := Y } [] (SubH pre (.ret (.tup [])) (if firstBad has (listsOf x).flatten = 0 then h else badH h r fid (firstBad has (listsOf x).flatten)))) := by
  obtain ⟨hr, hf, hpr, hpf, hb1, hb2, hb3, hY⟩ := hE
  simp only [SX.cells, List.map_cons, List.map_nil] at hbox
  simp [rest51, F51, hbox, setsPD_len]
  refine Runs_loop_ind (fun m t => ∃ i nx : Nat, ∃ R H L, i + m = x.sets.length ∧ 0 < nx ∧ L = rowsPD x.rows ++ (x.sets.take i).map (fun t => rowPD [t.e]) ∧ Row 24 1 pre nx L H R ∧ Rest0 pre h H ∧ H (pre ++ [0]) = some (.box [.data (.int .i64 x.kind), .data (.str x.tbl), .data (.list (colsPD x.cols)), .data (.str x.key), .data (.str x.index), .data (.list (rowsPD x.rows)), .data (.list (setsPD x.sets)), .data (.list (EX.pds x.items)), .data (.str x.join), .data (.list (EX.pds x.on)), .data (.list (EX.pds x.wher)), .data (.list (EX.pds x.group)), .data (.list (ordsPD x.order)), .data (.int .i64 x.limit)]) ∧
     t = { env := upd (upd (upd (upd (upd (upd (fun _ => none) 17 (.data (.int .i64 i))) 16 (.data (.int .i64 x.sets.length))) 15 (.data (.list (setsPD x.sets)))) 4 R) 2 (.ptr (pre ++ [0]) 0)) 1 (.yld r), heap := H, pre := pre, next := nx }) (n := x.sets.length)
    ⟨0, _, R, H, _, by simp, by omega, rfl, by simpa using hRow.mono (by omega), hRest, hbox, rfl⟩ ?_
  clear hRow hRest hbox hnx R H nx
  rintro m t ⟨i, nx, R, H, L, hi, hnx, hL, hRow, hRest, hbox, rfl⟩ ih
  simp
  refine Runs_split rfl ?_ ?_ <;> intro hc <;> simp at hc
  · obtain ⟨a, ha⟩ : ∃ a, x.sets[i]? = some a := ⟨_, List.getElem?_eq_getElem hc⟩
    have hi1 : IntKind.wrap .i64 ((i : Int) + 1) = ((i + 1 : Nat) : Int) := by rw [wrap_i64'] <;> omega
    have ha' : (setsPD x.sets)[i]? = some a.pd := by simp only [setsPD]; rw [List.getElem?_map, ha]; rfl
    obtain ⟨an, ⟨aop, av, atb, ann, aargs⟩⟩ := a
    simp only [TX.pd, EX.cells] at ha'
    have htake : rowsPD x.rows ++ (x.sets.take (i + 1)).map (fun t => rowPD [t.e]) = L ++ [.list [.agg [.int .i64 aop, .int .i64 av.kind, .int .i64 av.n, .str av.text, .str atb, .str ann, .list (EX.pds aargs)]]] := by
      rw [List.take_add_one, ha, hL]; simp [rowPD, EX.pds, EX.pd]
    have hlt : L.length = x.rows.length + i := by rw [hL]; simp [rowsPD_len]; omega
    have hbd : (L.length + 1) * 24 ≤ 140737488355328 := by omega
    rcases hRow with ⟨hL0, rfl⟩ | ⟨hL0, t, ht1, rfl, ht2⟩
    · simp [hc, ha', hi1, sizeD, mkAgg]
      refine ih (m - 1) _ (by omega) ⟨i + 1, _, _, _, _, by omega, ?_, htake.symm, .inr ⟨by simp, _, ⟨nx + 1 + 4 + 1 + 1 + 1 + 1 + 1, [], by omega, rfl⟩, ?_, ?_⟩, ?_, ?_, rfl⟩
      · omega
      · rw [hL0]; simp
      · rw [hL0]; simp
      · exact ((hRest.set _ [] _).set _ [] _).set _ [] _
      · simp [hbox]
    · have hn := fun n (hn : nx ≤ n) => ht1.ne hn
      simp [hc, ha', hi1, sizeD, mkAgg, ht2, hbd, hn _ (show nx ≤ nx + 1 + 1 + 1 by omega)]
      refine ih (m - 1) _ (by omega) ⟨i + 1, _, _, _, _, by omega, ?_, htake.symm, .inr ⟨by simp, t, ht1.mono (by omega), rfl, ?_⟩, ?_, ?_, rfl⟩
      · omega
      · simp
      · obtain ⟨k, rest, _, rfl⟩ := ht1
        exact ((hRest.set _ [] _).set _ [] _).set _ rest _
      · have : pre ++ [0] ≠ t := by
          rintro rfl
          rw [hbox] at ht2
          simp at ht2
        simp [hbox, this]
  · have hie : i = x.sets.length := by omega
    subst hie
    rw [List.take_length] at hL
    have hL4 : (listsOf x).map rowPD = L ++ [.list (EX.pds x.items), .list (EX.pds x.on), .list (EX.pds x.wher), .list (EX.pds x.group)] := by
      rw [hL]; simp [listsOf, rowPD, rowsPD]
    have hlt : L.length = x.rows.length + x.sets.length := by rw [hL]; simp [rowsPD_len]
    have hbd : (L.length + 4) * 24 ≤ 140737488355328 := by omega
    have hw := exprs_walk C Y has x h pre r fid v0 ⟨hr, hf, hpr, hpf, hb1, hb2, hb3, hY⟩ _ hL4.symm (by simp; omega)
    rcases hRow with ⟨hL0, rfl⟩ | ⟨hL0, t, ht1, rfl, ht2⟩
    · rw [hL0] at hw
      simp [walk51, F51] at hw
      simp [hbox, sizeD]
      exact hw _ _ _ (hRest.set _ [] _)
    · simp [walk51, F51] at hw
      simp [hbox, sizeD, ht2, hbd]
      obtain ⟨k, rest, _, rfl⟩ := ht1
      exact hw _ _ _ (hRest.set _ rest _)
end Go.Proofs.YtkcbomohgbafoaaDoor
/- exprs, Check$1 and Check. -/
set_option linter.unusedSimpArgs false
namespace Go.Proofs.YtkcbomohgbafoaaDoor
open Go

def a51 : ICode := match F51.body with | .seq a _ => a | c => c
def b51 : ICode := match F51.body with | .seq _ (.seq b _) => b | c => c

theorem exprs_ok (C : Calls') (Y : Yld) (has : Str → Str → Bool) (x : SX) (h : Heap) (pre r fid : Id) (v0 : Int) (hE : EH Y has x h pre r fid v0)
    (h92 : ∀ h' pre', C.shared 92 [.data (.list (rowsPD x.rows))] h' pre' = some (cloneR (rowsPD x.rows) pre' h')) :
    SSpec { C with yield := Y } F51 [.data x.pd, .yld r] h pre (.ret (.tup [])) (if firstBad has (listsOf x).flatten = 0 then h else badH h r fid (firstBad has (listsOf x).flatten)) := by
  have hrest := exprs_rest C Y has x h pre r fid v0 hE
  refine ⟨rfl, ?_⟩
  show Runs _ (.seq a51 (.seq b51 rest51)) _ _ _
  generalize (if firstBad has (listsOf x).flatten = 0 then h else badH h r fid (firstBad has (listsOf x).flatten)) = HH at hrest ⊢
  generalize rest51 = c at hrest ⊢
  obtain ⟨L, hL⟩ : ∃ L, rowsPD x.rows = L := ⟨_, rfl⟩
  rw [hL] at h92
  have h0 : Rest0 pre h h := fun j _ => rfl
  by_cases hz : L = []
  · subst hz
    have := hrest (.full []) (drop (pre ++ [3]) (upd h (pre ++ [0]) (.box (x.cells.map .data)))) 5 (.inl ⟨hL, rfl⟩) (by rw [drop_at (by intro hp; obtain ⟨z, hz⟩ := hp; simp at hz)]; simp [upd]) ((h0.set 0 [] _).drop 3) (by omega)
    simp [SX.cells, hL] at this
    simp [a51, b51, F51, SX.pd, SX.cells, h92, cloneR, hasYld, hL, after]
    exact this
  · have hz' : L.isEmpty = false := by simpa using hz
    have := hrest (.acc L (pre ++ [3] ++ [5])) (upd (upd h (pre ++ [0]) (.box (x.cells.map .data))) (pre ++ [3] ++ [5]) (.tok 24 1 L.length)) 5 (.inr ⟨by rw [hL]; exact hz, pre ++ [3] ++ [5], ⟨3, [5], by omega, by simp⟩, by rw [hL], by rw [hL]; simp [upd]⟩) (by simp [upd]) (by rw [List.append_assoc]; exact (h0.set 0 [] _).set 3 [5] _) (by omega)
    simp [SX.cells, hL] at this
    simp [a51, b51, F51, SX.pd, SX.cells, h92, cloneR, hasYld, hL, hz', after]
    exact this

/-- The call of a function of the program that is handed a yield. -/
theorem lim_iterS {G : IProg} {B : Calls'} {f : Nat} {F : IFunc} (hF : G f = some F) {Y : Yld} {vs : List RV} {h : Heap} {pre : Id} {o : Out} {H : Heap} (hs : SSpec { lim G B with yield := Y } F vs h pre o H) : ∃ h', (lim G B).iter Y f vs h pre = some (o, h') ∧ drop pre h' = drop pre H := by
  obtain ⟨n, ⟨o', h'⟩, h1, rfl, h3⟩ := Body.run hs
  exact ⟨h', lim_iter hF h1, h3⟩
theorem lim_iterA {G : IProg} {B : Calls'} {f : Nat} {F : IFunc} (hF : G f = some F) {Y : Yld} {vs : List RV} {h : Heap} {pre : Id} {o : Out} {H : Heap} (hs : SSpec { lim G B with yield := Y } F vs h pre o H) (hb : bare o = true) : ((lim G B).iter Y f vs h pre).map (after pre) = some (o, drop pre H) := by
  obtain ⟨h', h1, h2⟩ := lim_iterS hF hs
  rw [h1, Option.map_some, after_bare hb, h2]

/-- What is asked ahead of Check$1. -/
theorem check1_ok (C : Calls') (Y : Yld) (x : SX) (h HH : Heap) (pre r xid : Id) (hx : h xid = some (.box (x.cells.map .data)))
    (h51 : ∀ id, (C.iter Y 51 [.data x.pd, .yld r] h (pre ++ [id])).map (after (pre ++ [id])) = some (.ret (.tup []), drop (pre ++ [id]) HH)) :
    SSpec { C with yield := Y } F50 [.yld r, .ptr xid 0] h pre (.ret (.tup [])) HH := by
  simp only [SX.cells, List.map_cons, List.map_nil] at hx
  simp only [SX.pd, SX.cells] at h51
  simp [SSpec, Body, F50, hx, mkAgg, hasYld, h51]
  exact ⟨rfl, drop_twice _⟩

theorem Runs_rfn {C : Calls'} {k : List SK} {s s' : St} {Q : Ex × St → Prop} {g : IArg} {ps : List Nat} {a b : ICode} {f : Nat} {x y : List RV} {v : RV} {h' H : Heap} {e : Ex} (hg : evArg s.env g = some (.func f x y))
    (hi : C.iter (roundOf (evC0 C bigN a) (evC0 C bigN b) s.env ps (s.pre ++ [s.next + 1])) f (x ++ [.yld (s.pre ++ [s.next + 1])] ++ y) (upd (upd s.heap (s.pre ++ [s.next]) .dblk) (s.pre ++ [s.next + 1]) (.lrec .ready)) (s.pre ++ [s.next + 2]) = some (.ret v, h'))
    (hd : drop (s.pre ++ [s.next + 2]) h' = drop (s.pre ++ [s.next + 2]) H) (he : loopEnd s (.ret v, H) = some (e, s')) (hr : Rest C k e s' Q) : Runs C (.rfn g ps a b) k s Q := by
  obtain ⟨n, r, h1, h2⟩ := hr
  refine ⟨n, r, ?_, h2⟩
  have e2 : loopEnd s (.ret v, h') = loopEnd s (.ret v, H) := by simp only [loopEnd, hd]
  simp only [evC, hg, Option.bind_some, hi, e2, he]
  exact h1

/-- May a statement be? -/
def stmtP (has : Str → Str → Bool) (x : SX) : Int :=
  if x.kind < 1 ∨ x.kind > 10 then 22
  else if shapeP has x = false then 9
  else if firstBad has (listsOf x).flatten = 0 then (match x.group with | g :: _ => if g.op = 1 then 0 else 9 | [] => 0)
  else firstBad has (listsOf x).flatten

def ra20 : ICode := .region 6 [1, 2, 3] [⟨(some 3), .alloc [(.data (.int .i64 0)), (.data (.int .i64 0)), (.data (.int .i64 0)), (.data (.str [])), (.data (.str [])), (.data (.str [])), (.full [])], none⟩,
    ⟨none, .store 7 (.reg 3) (.reg 17), none⟩]
def rb20 : ICode := .block 1 (.seq (.region 7 [1, 2, 4] [⟨(some 18), .load (some 7) (.reg 3), none⟩,
    ⟨(some 19), .call 21 [(.reg 18)], none⟩,
    ⟨(some 4), .mv (.reg 19), none⟩])
  (.seq (.region 8 [1, 2, 4, 21] [⟨(some 20), .mv (.reg 4), none⟩,
    ⟨(some 21), .bin .neq (.reg 20) (.cst (.data (.int .i64 0))), none⟩])
  (.cond (.reg 21)
    (.seq (.region 9 [2] [⟨(some 22), .mv (.reg 4), none⟩,
      ⟨none, .store 1 (.reg 2) (.reg 22), none⟩])
    .ret)
    .skip)))

/-- A round of Check's loop. -/
theorem round20 (C : Calls') (has : Str → Str → Bool) (e : EX) (xid fid r : Id) (env : Nat → Option RV) (v0 : Int) (h1 : env 1 = some (.ptr xid 0)) (h2 : env 2 = some (.ptr fid 0)) (hne : r ≠ fid)
    (h21 : C.pure 21 [e.pd] = some (.ret [.int .i64 (checkP has e)])) (h : Heap) (id : Id) (hr : h r = some (.lrec .ready)) (hf : h fid = some (.box [.data (.int .i64 v0)])) (hpr : ¬ id <+: r) (hpf : ¬ id <+: fid) :
    roundOf (evC0 C bigN ra20) (evC0 C bigN rb20) env [17] r r [.data e.pd] h id = some (.data (.bool (checkP has e == 0)), drop id (if checkP has e = 0 then h else badH h r fid (checkP has e))) := by
  have n1 := not_pre hpr
  have n2 := not_pre hpf
  have n3 : ∀ k, id ++ [k] ≠ r := fun k e => n1 k e.symm
  obtain ⟨q, hq⟩ : ∃ q, checkP has e = q := ⟨_, rfl⟩
  rw [hq] at h21 ⊢
  obtain ⟨aop, av, atb, ann, aargs⟩ := e
  simp only [EX.pd] at h21
  by_cases hq0 : q = 0
  · subst hq0
    simp [roundOf, hr, setMany, ra20, rb20, evC0, evOps, EX.pd, mkAgg, h1, h2, h21, n1, n2, n3, seqE]
    funext j
    by_cases hp : id <+: j
    · simp [drop, List.isPrefixOf_iff_prefix.mpr hp]
    · have n4 := not_pre hp 0
      rw [drop_at hp, drop_at hp]
      by_cases hj : j = r
      · subst hj; simp [upd, hr]
      · simp [upd, hj, n4]
  · have hqb : (q == 0) = false := by simpa using hq0
    simp [roundOf, hr, setMany, ra20, rb20, evC0, evOps, EX.pd, mkAgg, h1, h2, h21, n1, n2, n3, seqE, hq0, hqb, hf, hne, Ne.symm hne]
    funext j
    by_cases hp : id <+: j
    · simp [drop, List.isPrefixOf_iff_prefix.mpr hp]
    · have n4 := not_pre hp 0
      rw [drop_at hp, drop_at hp]
      by_cases hj : j = r
      · subst hj; simp [upd, badH]
      · simp [upd, hj, n4, badH]

set_option maxHeartbeats 4000000 in
theorem stmt_ok (C : Calls') (has : Str → Str → Bool) (x : SX) (hb1 : shapeP has x = true → x.rows.length ≤ 100000 ∧ x.sets.length ≤ 100000) (hb3 : ∀ l ∈ listsOf x, l.length ≤ 9223372036854775807)
    (h49 : C.pure 49 [x.pd] = some (.ret [.bool (shapeP has x)]))
    (h21 : ∀ l ∈ listsOf x, ∀ e ∈ l, C.pure 21 [e.pd] = some (.ret [.int .i64 (checkP has e)]))
    (h50 : ∀ (Y : Yld) h pre r fid xid v0, EH Y has x h pre r fid v0 → h xid = some (.box (x.cells.map .data)) → ¬ pre <+: xid →
      ∃ h', C.iter Y 50 [.yld r, .ptr xid 0] h pre = some (.ret (.tup []), h') ∧ drop pre h' = drop pre (if firstBad has (listsOf x).flatten = 0 then h else badH h r fid (firstBad has (listsOf x).flatten))) :
    PSpec C F20 [x.pd] (.ret [.int .i64 (stmtP has x)]) := by
  by_cases g1 : x.kind < 1
  · simp only [SX.pd, SX.cells] at h49
    simp [PSpec, Body, F20, SX.pd, SX.cells, g1, stmtP]
  by_cases g2 : x.kind > 10
  · simp only [SX.pd, SX.cells] at h49
    simp [PSpec, Body, F20, SX.pd, SX.cells, g1, g2, stmtP]
  cases g3 : shapeP has x
  · simp only [SX.pd, SX.cells, g3] at h49
    simp [PSpec, Body, F20, SX.pd, SX.cells, g1, g2, g3, stmtP, mkAgg, h49]
  obtain ⟨hb1, hb2⟩ := hb1 g3
  simp only [SX.pd, SX.cells, g3] at h49
  simp [PSpec, Body, F20, SX.pd, SX.cells, g1, g2, mkAgg, h49]
  obtain ⟨h0, hh0⟩ : ∃ h0, h0 = upd (upd emptyH [0] (.box [.data (.int .i64 x.kind), .data (.str x.tbl), .data (.list (colsPD x.cols)), .data (.str x.key), .data (.str x.index), .data (.list (rowsPD x.rows)), .data (.list (setsPD x.sets)), .data (.list (EX.pds x.items)), .data (.str x.join), .data (.list (EX.pds x.on)), .data (.list (EX.pds x.wher)), .data (.list (EX.pds x.group)), .data (.list (ordsPD x.order)), .data (.int .i64 x.limit)])) [1] (.box [.data (.int .i64 0)]) := ⟨_, rfl⟩
  obtain ⟨env, henv⟩ : ∃ env : Nat → Option RV, env = upd (upd (upd (fun x => none) 16 (.func 50 [] [.ptr [0] 0])) 2 (.ptr [1] 0)) 1 (.ptr [0] 0) := ⟨_, rfl⟩
  have e1 : env 1 = some (.ptr [0] 0) := by rw [henv]; simp [upd]
  have e2 : env 2 = some (.ptr [1] 0) := by rw [henv]; simp [upd]
  obtain ⟨h', i1, i2⟩ := h50 (roundOf (evC0 C bigN ra20) (evC0 C bigN rb20) env [17] [15]) (upd (upd h0 [14] .dblk) [15] (.lrec .ready)) [16] [15] [1] [0] 0
    ⟨by simp [upd], by simp [upd, hh0], by simp, by simp, hb1, hb2, hb3, fun l hl e he h' id q1 q2 q3 q4 => round20 C has e [0] [1] [15] env 0 e1 e2 (by simp) (h21 l hl e he) h' id q1 q2 q3 q4⟩ (by simp [upd, hh0, SX.cells]) (by simp)
  rw [← hh0, ← henv]
  by_cases g4 : firstBad has (listsOf x).flatten = 0
  · rw [if_pos g4] at i2
    refine Runs_rfn (f := 50) (x := []) (y := [.ptr [0] 0]) (by simp [henv, upd]) i1 i2 (e := .normal) (s' := { env := env, heap := forgetI [15] (drop [16] (upd (upd h0 [14] .dblk) [15] (.lrec .ready))), pre := [], next := 17, dfs := [.mark [14]] }) (by simp [loopEnd, drop, upd, List.isPrefixOf]) ?_
    have hp : stmtP has x = match x.group with | g :: _ => if g.op = 1 then 0 else 9 | [] => 0 := by
      simp [stmtP, g1, g2, g3, g4]
    rw [hp]
    cases hgr : x.group with
    | nil =>
      simp [henv, hh0, forgetI, drop, List.isPrefixOf, hgr, EX.pds]
    | cons g gr =>
      obtain ⟨aop, av, atb, ann, aargs⟩ := g
      by_cases ho : aop = 1
      · simp [henv, hh0, forgetI, drop, List.isPrefixOf, hgr, EX.pds, EX.pd, EX.op, ho]
      · have hob : (aop == 1) = false := by simpa using ho
        simp [henv, hh0, forgetI, drop, List.isPrefixOf, hgr, EX.pds, EX.pd, EX.op, ho, hob]
  · rw [if_neg g4] at i2
    have hp : stmtP has x = firstBad has (listsOf x).flatten := by simp [stmtP, g1, g2, g3, g4]
    rw [hp]
    obtain ⟨d, hd⟩ : ∃ d, firstBad has (listsOf x).flatten = d := ⟨_, rfl⟩
    rw [hd] at i2 ⊢
    refine Runs_rfn (f := 50) (x := []) (y := [.ptr [0] 0]) (by simp [henv, upd]) i1 i2 (e := .ret) (s' := { env := env, heap := forgetI [15] (drop [16] (badH (upd (upd h0 [14] .dblk) [15] (.lrec .ready)) [15] [1] d)), pre := [], next := 17, dfs := [.mark [14]] }) (by simp [loopEnd, drop, upd, badH, List.isPrefixOf]) ?_
    simp [henv, hh0, forgetI, drop, List.isPrefixOf, badH]
end Go.Proofs.YtkcbomohgbafoaaDoor
