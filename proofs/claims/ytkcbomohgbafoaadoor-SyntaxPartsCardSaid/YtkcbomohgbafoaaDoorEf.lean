/- How a proof runs the evaluator: one step at a time, with a stack of what comes next. -/
import Derived.Test.YtkcbomohgbafoaaDoorEa
import Derived.Test.YtkcbomohgbafoaaDoorEe
set_option linter.unusedVariables false
set_option linter.unusedSimpArgs false
namespace Go.Proofs.YtkcbomohgbafoaaDoor
open Go

/-! ### more rounds do no harm -/
theorem iter_mono {f g : St → Option (Ex × St)} (h : ∀ s r, f s = some r → g s = some r) : ∀ {n m : Nat} {s : St} {r : Ex × St}, n ≤ m → iter f n s = some r → iter g m s = some r
  | 0, m, s, r, _, hr => by simp [iter] at hr
  | n + 1, 0, s, r, hle, hr => by omega
  | n + 1, m + 1, s, r, hle, hr => by
    simp only [iter, seqE, Option.bind_eq_some_iff] at hr ⊢
    obtain ⟨⟨x, s1⟩, h1, h2⟩ := hr
    refine ⟨(x, s1), h _ _ h1, ?_⟩
    cases x with
    | normal => exact iter_mono h (by omega) h2
    | _ => exact h2
theorem giter_mono {f g : St → Option (Ex × St)} (l : Nat) (h : ∀ s r, f s = some r → g s = some r) : ∀ {n m : Nat} {s : St} {r : Ex × St}, n ≤ m → giter f l n s = some r → giter g l m s = some r
  | 0, m, s, r, _, hr => by simp [giter] at hr
  | n + 1, 0, s, r, hle, hr => by omega
  | n + 1, m + 1, s, r, hle, hr => by
    simp only [giter, Option.bind_eq_some_iff] at hr ⊢
    obtain ⟨⟨x, s1⟩, h1, h2⟩ := hr
    refine ⟨(x, s1), h _ _ h1, ?_⟩
    cases x with
    | goto i =>
      simp only at h2 ⊢
      split at h2
      · rename_i e; rw [if_pos e]; exact giter_mono l h (by omega) h2
      · simp at h2
    | _ => exact h2

theorem evC_mono (C : Calls') {n m : Nat} (hle : n ≤ m) : ∀ (c : ICode) {s : St} {r : Ex × St}, evC C n c s = some r → evC C m c s = some r
  | .skip, s, r, h | .exit _, s, r, h | .goto _, s, r, h | .ret, s, r, h | .fail, s, r, h | .region .., s, r, h | .dregion .., s, r, h | .rfn .., s, r, h => by simpa only [evC] using h
  | .seq a b, s, r, h => by
    simp only [evC, seqE, Option.bind_eq_some_iff] at h ⊢
    obtain ⟨⟨x, s1⟩, h1, h2⟩ := h
    refine ⟨(x, s1), evC_mono C hle a h1, ?_⟩
    cases x with
    | normal => exact evC_mono C hle b h2
    | _ => exact h2
  | .cond c a b, s, r, h => by
    simp only [evC, Option.bind_eq_some_iff] at h ⊢
    obtain ⟨v, h1, h2⟩ := h
    refine ⟨v, h1, ?_⟩
    split at h2
    · rename_i t
      cases t with
      | true => simp only [if_true] at h2 ⊢; exact evC_mono C hle a h2
      | false => simp only [Bool.false_eq_true, if_false] at h2 ⊢; exact evC_mono C hle b h2
    · simp at h2
  | .block id c, s, r, h => by
    simp only [evC, Option.bind_eq_some_iff] at h ⊢
    obtain ⟨x, h1, h2⟩ := h
    exact ⟨x, evC_mono C hle c h1, h2⟩
  | .loop c, s, r, h => by
    simp only [evC] at h ⊢
    exact iter_mono (fun s r hr => evC_mono C hle c hr) hle h
  | .gloop l c, s, r, h => by
    simp only [evC] at h ⊢
    exact giter_mono l (fun s r hr => evC_mono C hle c hr) hle h

/-! ### a stack of what comes next -/
inductive SK where
  | code (c : ICode)
  | blk (id : Nat)
  | lp (c : ICode)
  | gl (l : Nat) (c : ICode)

/-- The rest of a run. -/
def evK (C : Calls') (n : Nat) : List SK → Ex × St → Option (Ex × St)
  | [], r => some r
  | .code c :: k, (.normal, s) => (evC C n c s).bind (evK C n k)
  | .code _ :: k, r => evK C n k r
  | .blk id :: k, (.exit i, s) => if i = id then evK C n k (.normal, s) else evK C n k (.exit i, s)
  | .blk _ :: k, r => evK C n k r
  | .lp c :: k, (.normal, s) => (iter (evC C n c) n s).bind (evK C n k)
  | .lp _ :: k, r => evK C n k r
  | .gl l c :: k, (.goto i, s) => if i = l then (giter (evC C n c) l n s).bind (evK C n k) else none
  | .gl _ _ :: k, r => evK C n k r

theorem evK_mono (C : Calls') {n m : Nat} (hle : n ≤ m) : ∀ (k : List SK) {x : Ex × St} {r : Ex × St}, evK C n k x = some r → evK C m k x = some r
  | [], x, r, h => by simpa only [evK] using h
  | .code c :: k, (x, s), r, h => by
    cases x with
    | normal =>
      simp only [evK, Option.bind_eq_some_iff] at h ⊢
      obtain ⟨y, h1, h2⟩ := h
      exact ⟨y, evC_mono C hle c h1, evK_mono C hle k h2⟩
    | _ => simp only [evK] at h ⊢; exact evK_mono C hle k h
  | .blk id :: k, (x, s), r, h => by
    cases x with
    | exit i =>
      simp only [evK] at h ⊢
      split at h
      · rename_i e; rw [if_pos e]; exact evK_mono C hle k h
      · rename_i e; rw [if_neg e]; exact evK_mono C hle k h
    | _ => simp only [evK] at h ⊢; exact evK_mono C hle k h
  | .lp c :: k, (x, s), r, h => by
    cases x with
    | normal =>
      simp only [evK, Option.bind_eq_some_iff] at h ⊢
      obtain ⟨y, h1, h2⟩ := h
      exact ⟨y, iter_mono (fun s r hr => evC_mono C hle c hr) hle h1, evK_mono C hle k h2⟩
    | _ => simp only [evK] at h ⊢; exact evK_mono C hle k h
  | .gl l c :: k, (x, s), r, h => by
    cases x with
    | goto i =>
      simp only [evK] at h ⊢
      split at h
      · rename_i e
        rw [if_pos e]
        simp only [Option.bind_eq_some_iff] at h ⊢
        obtain ⟨y, h1, h2⟩ := h
        exact ⟨y, giter_mono l (fun s r hr => evC_mono C hle c hr) hle h1, evK_mono C hle k h2⟩
      · simp at h
    | _ => simp only [evK] at h ⊢; exact evK_mono C hle k h

/-- A run of code and of what comes behind it. -/
def Runs (C : Calls') (c : ICode) (k : List SK) (s : St) (Q : Ex × St → Prop) : Prop := ∃ n r, (evC C n c s).bind (evK C n k) = some r ∧ Q r
/-- A run of the rest. -/
def Rest (C : Calls') (k : List SK) (x : Ex) (s : St) (Q : Ex × St → Prop) : Prop := ∃ n r, evK C n k (x, s) = some r ∧ Q r

section
variable {C : Calls'} {k : List SK} {s : St} {Q : Ex × St → Prop}

@[simp] theorem Rest_nil {x : Ex} : Rest C [] x s Q ↔ Q (x, s) := ⟨fun ⟨n, r, h, hq⟩ => by simp only [evK, Option.some.injEq] at h; rwa [h], fun h => ⟨0, _, rfl, h⟩⟩
@[simp] theorem Rest_code {c : ICode} : Rest C (.code c :: k) .normal s Q ↔ Runs C c k s Q := Iff.rfl
@[simp] theorem Rest_code_exit {c : ICode} {i : Nat} : Rest C (.code c :: k) (.exit i) s Q ↔ Rest C k (.exit i) s Q := Iff.rfl
@[simp] theorem Rest_code_ret {c : ICode} : Rest C (.code c :: k) .ret s Q ↔ Rest C k .ret s Q := Iff.rfl
@[simp] theorem Rest_code_goto {c : ICode} {i : Nat} : Rest C (.code c :: k) (.goto i) s Q ↔ Rest C k (.goto i) s Q := Iff.rfl
@[simp] theorem Rest_code_panic {c : ICode} {d : PD} : Rest C (.code c :: k) (.panic d) s Q ↔ Rest C k (.panic d) s Q := Iff.rfl
@[simp] theorem Rest_blk {id : Nat} : Rest C (.blk id :: k) .normal s Q ↔ Rest C k .normal s Q := Iff.rfl
@[simp] theorem Rest_blk_ret {id : Nat} : Rest C (.blk id :: k) .ret s Q ↔ Rest C k .ret s Q := Iff.rfl
@[simp] theorem Rest_blk_goto {id i : Nat} : Rest C (.blk id :: k) (.goto i) s Q ↔ Rest C k (.goto i) s Q := Iff.rfl
@[simp] theorem Rest_blk_panic {id : Nat} {d : PD} : Rest C (.blk id :: k) (.panic d) s Q ↔ Rest C k (.panic d) s Q := Iff.rfl
@[simp] theorem Rest_blk_exit {id i : Nat} : Rest C (.blk id :: k) (.exit i) s Q ↔ if i = id then Rest C k .normal s Q else Rest C k (.exit i) s Q := by
  simp only [Rest, evK]
  split <;> exact Iff.rfl
@[simp] theorem Rest_lp_exit {c : ICode} {i : Nat} : Rest C (.lp c :: k) (.exit i) s Q ↔ Rest C k (.exit i) s Q := Iff.rfl
@[simp] theorem Rest_lp_ret {c : ICode} : Rest C (.lp c :: k) .ret s Q ↔ Rest C k .ret s Q := Iff.rfl
@[simp] theorem Rest_lp_goto {c : ICode} {i : Nat} : Rest C (.lp c :: k) (.goto i) s Q ↔ Rest C k (.goto i) s Q := Iff.rfl
@[simp] theorem Rest_lp_panic {c : ICode} {d : PD} : Rest C (.lp c :: k) (.panic d) s Q ↔ Rest C k (.panic d) s Q := Iff.rfl
@[simp] theorem Rest_gl {l : Nat} {c : ICode} : Rest C (.gl l c :: k) .normal s Q ↔ Rest C k .normal s Q := Iff.rfl
@[simp] theorem Rest_gl_ret {l : Nat} {c : ICode} : Rest C (.gl l c :: k) .ret s Q ↔ Rest C k .ret s Q := Iff.rfl
@[simp] theorem Rest_gl_exit {l i : Nat} {c : ICode} : Rest C (.gl l c :: k) (.exit i) s Q ↔ Rest C k (.exit i) s Q := Iff.rfl
@[simp] theorem Rest_gl_panic {l : Nat} {c : ICode} {d : PD} : Rest C (.gl l c :: k) (.panic d) s Q ↔ Rest C k (.panic d) s Q := Iff.rfl

@[simp] theorem Runs_skip : Runs C .skip k s Q ↔ Rest C k .normal s Q := Iff.rfl
@[simp] theorem Runs_ret : Runs C .ret k s Q ↔ Rest C k .ret s Q := Iff.rfl
@[simp] theorem Runs_exit {i : Nat} : Runs C (.exit i) k s Q ↔ Rest C k (.exit i) s Q := Iff.rfl
@[simp] theorem Runs_goto {i : Nat} : Runs C (.goto i) k s Q ↔ Rest C k (.goto i) s Q := Iff.rfl
@[simp] theorem Runs_seq {a b : ICode} : Runs C (.seq a b) k s Q ↔ Runs C a (.code b :: k) s Q := by
  have e : ∀ n, (evC C n (.seq a b) s).bind (evK C n k) = (evC C n a s).bind (evK C n (.code b :: k)) := by
    intro n
    simp only [evC, seqE, Option.bind_assoc]
    congr 1
    funext ⟨x, s1⟩
    cases x <;> rfl
  simp only [Runs, e]
@[simp] theorem Runs_block {id : Nat} {c : ICode} : Runs C (.block id c) k s Q ↔ Runs C c (.blk id :: k) s Q := by
  have e : ∀ n, (evC C n (.block id c) s).bind (evK C n k) = (evC C n c s).bind (evK C n (.blk id :: k)) := by
    intro n
    simp only [evC, Option.bind_assoc]
    congr 1
    funext ⟨x, s1⟩
    cases x <;> simp only [Option.bind_some, evK]
    split <;> rfl
  simp only [Runs, e]
theorem Runs_cond {c : IArg} {a b : ICode} : Runs C (.cond c a b) k s Q ↔ match evArg s.env c with | some (.data (.bool t)) => if t then Runs C a k s Q else Runs C b k s Q | _ => False := by
  have e : ∀ n, (evC C n (.cond c a b) s).bind (evK C n k) = match evArg s.env c with | some (.data (.bool t)) => if t then (evC C n a s).bind (evK C n k) else (evC C n b s).bind (evK C n k) | _ => none := by
    intro n
    simp only [evC]
    cases evArg s.env c with
    | none => rfl
    | some v =>
      simp only [Option.bind_some]
      split <;> simp_all
      split <;> rfl
  simp only [Runs, e]
  split
  · split <;> exact Iff.rfl
  · simp

@[simp] theorem Runs_cond_true {c : IArg} {a b : ICode} (h : evArg s.env c = some (.data (.bool true))) : Runs C (.cond c a b) k s Q ↔ Runs C a k s Q := by rw [Runs_cond, h]; rfl
@[simp] theorem Runs_cond_false {c : IArg} {a b : ICode} (h : evArg s.env c = some (.data (.bool false))) : Runs C (.cond c a b) k s Q ↔ Runs C b k s Q := by rw [Runs_cond, h]; rfl
/-- Both ways. -/
theorem Runs_split {c : IArg} {a b : ICode} {t : Bool} (h : evArg s.env c = some (.data (.bool t))) (h1 : t = true → Runs C a k s Q) (h2 : t = false → Runs C b k s Q) : Runs C (.cond c a b) k s Q := by
  rw [Runs_cond, h]
  cases t with
  | true => exact h1 rfl
  | false => exact h2 rfl

/-- A round of a loop. -/
theorem Runs_loop {c : ICode} (h : Runs C c (.lp c :: k) s Q) : Runs C (.loop c) k s Q := by
  obtain ⟨n, r, h1, hq⟩ := h
  refine ⟨n + 1, r, ?_, hq⟩
  simp only [Option.bind_eq_some_iff] at h1 ⊢
  obtain ⟨⟨x, s1⟩, h2, h3⟩ := h1
  simp only [evC, iter, seqE, Option.bind_eq_some_iff]
  cases x with
  | normal =>
    simp only [evK, Option.bind_eq_some_iff] at h3
    obtain ⟨y, h4, h5⟩ := h3
    refine ⟨y, ⟨(.normal, s1), evC_mono C (by omega) c h2, ?_⟩, evK_mono C (by omega) k h5⟩
    exact iter_mono (fun s r hr => evC_mono C (by omega) c hr) (Nat.le_refl _) h4
  | _ =>
    simp only [evK] at h3
    exact ⟨_, ⟨_, evC_mono C (by omega) c h2, rfl⟩, evK_mono C (by omega) k h3⟩
theorem Rest_lp {c : ICode} (h : Runs C c (.lp c :: k) s Q) : Rest C (.lp c :: k) .normal s Q := by
  obtain ⟨n, r, h1, hq⟩ := Runs_loop h
  exact ⟨n, r, h1, hq⟩
theorem Rest_lp_iff {c : ICode} : Rest C (.lp c :: k) .normal s Q ↔ Runs C (.loop c) k s Q := Iff.rfl
/-- A loop, by a measure. -/
theorem Runs_loop_ind {c : ICode} (I : Nat → St → Prop) {n : Nat} (h0 : I n s) (step : ∀ m s, I m s → (∀ m' s', m' < m → I m' s' → Rest C (.lp c :: k) .normal s' Q) → Runs C c (.lp c :: k) s Q) : Runs C (.loop c) k s Q := by
  have key : ∀ m s, I m s → Runs C (.loop c) k s Q := by
    intro m
    induction m using Nat.strongRecOn with
    | _ m ih => exact fun s hI => Runs_loop (step m s hI fun m' s' hlt hI' => Rest_lp_iff.2 (ih m' hlt s' hI'))
  exact key n s h0
theorem Runs_gloop {l : Nat} {c : ICode} (h : Runs C c (.gl l c :: k) s Q) : Runs C (.gloop l c) k s Q := by
  obtain ⟨n, r, h1, hq⟩ := h
  refine ⟨n + 1, r, ?_, hq⟩
  simp only [Option.bind_eq_some_iff] at h1 ⊢
  obtain ⟨⟨x, s1⟩, h2, h3⟩ := h1
  simp only [evC, giter, Option.bind_eq_some_iff]
  cases x with
  | goto i =>
    simp only [evK] at h3
    split at h3
    · rename_i e
      simp only [Option.bind_eq_some_iff] at h3
      obtain ⟨y, h4, h5⟩ := h3
      refine ⟨y, ⟨(.goto i, s1), evC_mono C (by omega) c h2, ?_⟩, evK_mono C (by omega) k h5⟩
      simp only [if_pos e]
      exact giter_mono l (fun s r hr => evC_mono C (by omega) c hr) (Nat.le_refl _) h4
    · simp at h3
  | _ =>
    simp only [evK] at h3
    exact ⟨_, ⟨_, evC_mono C (by omega) c h2, rfl⟩, evK_mono C (by omega) k h3⟩
theorem Rest_gl_goto {l i : Nat} {c : ICode} (e : i = l) (h : Runs C c (.gl l c :: k) s Q) : Rest C (.gl l c :: k) (.goto i) s Q := by
  obtain ⟨n, r, h1, hq⟩ := Runs_gloop h
  refine ⟨n, r, ?_, hq⟩
  simp only [evK, if_pos e]
  exact h1

/-- The operations of a region, one at a time. -/
def ROps (C : Calls') (id : Nat) (ops : List IOper) (live : List Nat) (k : List SK) (s : St) (Q : Ex × St → Prop) : Prop :=
  ∃ n r, ((evOps C id ops s).bind fun (x, s') => evK C n k (x, { s' with env := keep s'.env live })) = some r ∧ Q r
@[simp] theorem Runs_region {i : Nat} {live : List Nat} {ops : List IOper} : Runs C (.region i live ops) k s Q ↔ ROps C s.next ops live k { s with next := s.next + ops.length } Q := by
  simp only [Runs, ROps, evC, Option.bind_assoc, Option.bind_some]
@[simp] theorem ROps_nil {id : Nat} {live : List Nat} : ROps C id [] live k s Q ↔ Rest C k .normal { s with env := keep s.env live } Q := Iff.rfl
/-- What an operation's outcome goes on with: the two ways on are held back from simp till the outcome is known. -/
structure Wit {α : Type} (a : α) : Type where
def onOut (f : RV → St → Prop) (g : PD → St → Prop) (_ : Wit (f, g)) : Option OpOut → Prop
  | some (.val v s) => f v s
  | some (.pan d s) => g d s
  | none => False
@[simp] theorem onOut_val (f : RV → St → Prop) (g : PD → St → Prop) (w : Wit (f, g)) (v : RV) (s : St) : onOut f g w (some (.val v s)) = f v s := rfl
@[simp] theorem onOut_pan (f : RV → St → Prop) (g : PD → St → Prop) (w : Wit (f, g)) (d : PD) (s : St) : onOut f g w (some (.pan d s)) = g d s := rfl
@[simp] theorem onOut_none (f : RV → St → Prop) (g : PD → St → Prop) (w : Wit (f, g)) : onOut f g w none = False := rfl
def onB (f : Bool → Prop) (_ : Wit f) : Option Bool → Prop
  | some t => f t
  | none => False
theorem onB_some (f : Bool → Prop) (w : Wit f) (t : Bool) : onB f w (some t) = f t := rfl
@[simp] theorem onB_true (f : Bool → Prop) (w : Wit f) {t : Bool} (h : t = true) : onB f w (some t) = f true := by rw [h]; rfl
@[simp] theorem onB_false (f : Bool → Prop) (w : Wit f) {t : Bool} (h : t = false) : onB f w (some t) = f false := by rw [h]; rfl
/-- Both ways of a guard. -/
theorem onB_split {f : Bool → Prop} {w : Wit f} {t : Bool} (h1 : t = true → f true) (h2 : t = false → f false) : onB f w (some t) := by
  cases t with
  | true => exact h1 rfl
  | false => exact h2 rfl
@[simp] theorem onB_none (f : Bool → Prop) (w : Wit f) : onB f w none = False := rfl

theorem ROps_cons0 {id : Nat} {o : IOper} {os : List IOper} {live : List Nat} : ROps C id (o :: os) live k s Q ↔
    onB (fun t => if t = true then onOut (fun v s' => ROps C (id + 1) os live k (s'.put o.dst v) Q) (fun d s' => Rest C k (.panic d) { s' with env := keep s'.env live } Q) ⟨⟩ (evOp C (s.pre ++ [id]) o.op s)
      else ROps C (id + 1) os live k (s.put o.dst (.tup [])) Q) ⟨⟩ (wanted s.env o.guard) := by
  simp only [ROps, evOps]
  cases hw : wanted s.env o.guard with
  | none => simp
  | some t =>
    cases t with
    | false => simp
    | true =>
      simp only [Option.bind_some, if_true, onB_some]
      cases he : evOp C (s.pre ++ [id]) o.op s with
      | none => simp
      | some out =>
        cases out with
        | val v s' => simp
        | pan d s' => simp [Rest]
@[simp] theorem ROps_free {id : Nat} {d : Option Nat} {op : IOp} {os : List IOper} {live : List Nat} : ROps C id (⟨d, op, none⟩ :: os) live k s Q ↔
    onOut (fun v s' => ROps C (id + 1) os live k (s'.put d v) Q) (fun d s' => Rest C k (.panic d) { s' with env := keep s'.env live } Q) ⟨⟩ (evOp C (s.pre ++ [id]) op s) := by
  rw [ROps_cons0]; rfl
@[simp] theorem ROps_guarded {id : Nat} {d : Option Nat} {op : IOp} {r : Nat} {b : Bool} {os : List IOper} {live : List Nat} : ROps C id (⟨d, op, some (r, b)⟩ :: os) live k s Q ↔
    onB (fun t => if t = true then onOut (fun v s' => ROps C (id + 1) os live k (s'.put d v) Q) (fun d s' => Rest C k (.panic d) { s' with env := keep s'.env live } Q) ⟨⟩ (evOp C (s.pre ++ [id]) op s)
      else ROps C (id + 1) os live k (s.put d (.tup [])) Q) ⟨⟩ (wanted s.env (some (r, b))) := ROps_cons0
/-- The operations of a region whose order is drawn. -/
def DOps (C : Calls') (id : Nat) (ops : List IOper) (live : List Nat) (k : List SK) (s : St) (Q : Ex × St → Prop) : Prop :=
  ∃ n r, ((evOps C id ops s).bind fun (x, s') => match x with
      | .normal => evK C n k (.normal, { s' with env := keep s'.env live })
      | _ => none) = some r ∧ Q r
@[simp] theorem Runs_dregion {i : Nat} {live : List Nat} {ops : List IOper} : Runs C (.dregion i live ops) k s Q ↔ DOps C s.next ops live k { s with next := s.next + ops.length } Q := by
  have e : ∀ n, (evC C n (.dregion i live ops) s).bind (evK C n k) = ((evOps C s.next ops { s with next := s.next + ops.length }).bind fun (x, s') => match x with
      | .normal => evK C n k (.normal, { s' with env := keep s'.env live })
      | _ => none) := by
    intro n
    simp only [evC, Option.bind_assoc]
    congr 1
    funext ⟨x, s1⟩
    cases x <;> rfl
  simp only [Runs, DOps, e]
@[simp] theorem DOps_nil {id : Nat} {live : List Nat} : DOps C id [] live k s Q ↔ Rest C k .normal { s with env := keep s.env live } Q := Iff.rfl
theorem DOps_cons0 {id : Nat} {o : IOper} {os : List IOper} {live : List Nat} : DOps C id (o :: os) live k s Q ↔
    onB (fun t => if t = true then onOut (fun v s' => DOps C (id + 1) os live k (s'.put o.dst v) Q) (fun _ _ => False) ⟨⟩ (evOp C (s.pre ++ [id]) o.op s)
      else DOps C (id + 1) os live k (s.put o.dst (.tup [])) Q) ⟨⟩ (wanted s.env o.guard) := by
  simp only [DOps, evOps]
  cases hw : wanted s.env o.guard with
  | none => simp
  | some t =>
    cases t with
    | false => simp
    | true =>
      simp only [Option.bind_some, if_true, onB_some]
      cases he : evOp C (s.pre ++ [id]) o.op s with
      | none => simp
      | some out =>
        cases out with
        | val v s' => simp
        | pan d s' => simp
@[simp] theorem DOps_free {id : Nat} {d : Option Nat} {op : IOp} {os : List IOper} {live : List Nat} : DOps C id (⟨d, op, none⟩ :: os) live k s Q ↔
    onOut (fun v s' => DOps C (id + 1) os live k (s'.put d v) Q) (fun _ _ => False) ⟨⟩ (evOp C (s.pre ++ [id]) op s) := by
  rw [DOps_cons0]; rfl
@[simp] theorem DOps_guarded {id : Nat} {d : Option Nat} {op : IOp} {r : Nat} {b : Bool} {os : List IOper} {live : List Nat} : DOps C id (⟨d, op, some (r, b)⟩ :: os) live k s Q ↔
    onB (fun t => if t = true then onOut (fun v s' => DOps C (id + 1) os live k (s'.put d v) Q) (fun _ _ => False) ⟨⟩ (evOp C (s.pre ++ [id]) op s)
      else DOps C (id + 1) os live k (s.put d (.tup [])) Q) ⟨⟩ (wanted s.env (some (r, b))) := DOps_cons0
end

/-- How a function's body ends. -/
def endingR (C : Calls') (rs : List IRes) (u : Option PD) (s : St) : Option (Out × Heap) :=
  (unw C s.pre s.dfs s.next u s.heap).bind fun (u', h) =>
    match u' with
    | none => (evRess { s with heap := h } rs).bind fun l => some (.ret (oneOf l), h)
    | some d => some (.pan d, h)
theorem ending_eq (C : Calls') (F : IFunc) (u : Option PD) (s : St) : ending C F u s = endingR C F.results u s := rfl

def Fin (C : Calls') (rs : List IRes) (Q : Out × Heap → Prop) (r : Ex × St) : Prop :=
  match r.1 with
  | .normal | .ret => (match endingR C rs none r.2 with | some r => Q r | none => False)
  | .panic d => (match endingR C rs (some d) r.2 with | some r => Q r | none => False)
  | _ => False
@[simp] theorem Fin_normal (C : Calls') (rs : List IRes) (Q : Out × Heap → Prop) (s : St) : Fin C rs Q (.normal, s) ↔ match endingR C rs none s with | some r => Q r | none => False := Iff.rfl
@[simp] theorem Fin_ret (C : Calls') (rs : List IRes) (Q : Out × Heap → Prop) (s : St) : Fin C rs Q (.ret, s) ↔ match endingR C rs none s with | some r => Q r | none => False := Iff.rfl
@[simp] theorem Fin_panic (C : Calls') (rs : List IRes) (Q : Out × Heap → Prop) (s : St) (d : PD) : Fin C rs Q (.panic d, s) ↔ match endingR C rs (some d) s with | some r => Q r | none => False := Iff.rfl

/-- A function's body. -/
def Body (C : Calls') (F : IFunc) (args : List RV) (h : Id → Option AObj) (pre : Id) (Q : Out × (Id → Option AObj) → Prop) : Prop :=
  args.length = F.nargs ∧ Runs C F.body [] { env := enter args, heap := h, pre, next := 0 } (Fin C F.results Q)

theorem Body.run {C : Calls'} {F : IFunc} {args : List RV} {h : Id → Option AObj} {pre : Id} {Q : Out × (Id → Option AObj) → Prop} (hb : Body C F args h pre Q) : ∃ n r, evBody C n F args h pre = some r ∧ Q r := by
  obtain ⟨h1, n, ⟨x, s⟩, h2, h3⟩ := hb
  have h2' : evC C n F.body { env := enter args, heap := h, pre, next := 0 } = some (x, s) := by
    simp only [Option.bind_eq_some_iff] at h2
    obtain ⟨y, h4, h5⟩ := h2
    simp only [evK, Option.some.injEq] at h5
    rw [h4, h5]
  refine ⟨n, ?_⟩
  simp only [evBody, h1, if_true, h2', Option.bind_some, ending_eq]
  cases x with
  | normal => simp only [Fin] at h3 ⊢; split at h3; exact ⟨_, by assumption, h3⟩; exact h3.elim
  | ret => simp only [Fin] at h3 ⊢; split at h3; exact ⟨_, by assumption, h3⟩; exact h3.elim
  | panic d => simp only [Fin] at h3 ⊢; split at h3; exact ⟨_, by assumption, h3⟩; exact h3.elim
  | exit i => exact h3.elim
  | goto i => exact h3.elim

def pureOutR (rs : List IRes) : Out × Heap → Option POut
  | (.ret v, _) =>
    match rs with
    | [_] => (toD v).bind fun d => some (.ret [d])
    | _ => match v with | .tup l => (toDs l).bind fun ds => (match ds with | [_] => none | ds => some (.ret ds)) | _ => none
  | (.pan d, _) => some (.pan d)
theorem pureOut_eq (F : IFunc) (r : Out × Heap) : pureOut F r = pureOutR F.results r := rfl
def PureQ (rs : List IRes) (out : POut) (r : Out × Heap) : Prop := pureOutR rs r = some out
@[simp] theorem PureQ_ret (rs : List IRes) (out : POut) (v : RV) (h : Heap) : PureQ rs out (.ret v, h) ↔ pureOutR rs (.ret v, h) = some out := Iff.rfl
@[simp] theorem PureQ_pan (rs : List IRes) (out : POut) (d : PD) (h : Heap) : PureQ rs out (.pan d, h) ↔ .pan d = out := by simp [PureQ, pureOutR]

/-- What a function of pure values comes to. -/
def PSpec (C : Calls') (F : IFunc) (ds : List PD) (out : POut) : Prop := Body C F (ds.map .data) emptyH [] (PureQ F.results out)

theorem PSpec.run {C : Calls'} {F : IFunc} {ds : List PD} {out : POut} (h : PSpec C F ds out) : ∃ n, (evBody C n F (ds.map .data) emptyH []).bind (pureOut F) = some out := by
  obtain ⟨n, r, h1, h2⟩ := Body.run h
  exact ⟨n, by rw [h1]; exact h2⟩

attribute [simp] nilL shFn wanted evOp evArg evArgs val St.put St.set St.obj upd keep enter binD arith evRess evRes oneOf toDs toD allData cellsD cellsR elems rdD rdR doCall noIds noIdss outV goI unD bound boundO fillR splice unw endingR pureOutR

end Go.Proofs.YtkcbomohgbafoaaDoor
/- The calls of a program at their limit: whatever some depth of calls tells, the limit tells; and the limit is closed under the program's functions. -/
set_option linter.unusedVariables false
set_option linter.unusedSimpArgs false
namespace Go.Proofs.YtkcbomohgbafoaaDoor
open Go

/-- From some number on. -/
def Evt (p : Nat → Prop) : Prop := ∃ m, ∀ k, m ≤ k → p k
theorem Evt.of {p : Nat → Prop} (h : ∀ k, p k) : Evt p := ⟨0, fun k _ => h k⟩
theorem Evt.and {p q : Nat → Prop} (h : Evt p) (h' : Evt q) : Evt fun k => p k ∧ q k := by
  obtain ⟨a, h⟩ := h
  obtain ⟨b, h'⟩ := h'
  exact ⟨max a b, fun k hk => ⟨h k (by omega), h' k (by omega)⟩⟩
theorem Evt.mono {p q : Nat → Prop} (h : Evt p) (hpq : ∀ k, p k → q k) : Evt q := by
  obtain ⟨a, h⟩ := h
  exact ⟨a, fun k hk => hpq k (h k hk)⟩
theorem Evt.const {p : Prop} (h : Evt fun _ => p) : p := by
  obtain ⟨a, h⟩ := h
  exact h a (Nat.le_refl _)
/-- Two steps, one behind the other. -/
theorem Evt.bind {α β : Type} {x : Option α} {g : α → Option β} {xs : Nat → Option α} {gs : Nat → α → Option β} {r : β} (h : x.bind g = some r)
    (hx : ∀ a, x = some a → Evt fun k => xs k = some a) (hg : ∀ a, g a = some r → Evt fun k => gs k a = some r) : Evt fun k => (xs k).bind (gs k) = some r := by
  obtain ⟨a, h1, h2⟩ := Option.bind_eq_some_iff.mp h
  exact ((hx a h1).and (hg a h2)).mono fun k ⟨h3, h4⟩ => by rw [h3]; exact h4

def YTends (Ys : Nat → Yld) (Y : Yld) : Prop := ∀ r vs h id o, Y r vs h id = some o → Evt fun k => Ys k r vs h id = some o
theorem YTends.refl (Y : Yld) : YTends (fun _ => Y) Y := fun _ _ _ _ _ h => Evt.of fun _ => h

structure Tends (Cs : Nat → Calls') (C : Calls') : Prop where
  pure : ∀ f ds o, C.pure f ds = some o → Evt fun k => (Cs k).pure f ds = some o
  shared : ∀ f vs h pre o, C.shared f vs h pre = some o → Evt fun k => (Cs k).shared f vs h pre = some o
  dfr : ∀ f vs u h pre o, C.dfr f vs u h pre = some o → Evt fun k => (Cs k).dfr f vs u h pre = some o
  iter : ∀ Ys Y f vs h pre o, YTends Ys Y → C.iter Y f vs h pre = some o → Evt fun k => (Cs k).iter (Ys k) f vs h pre = some o
  yield : YTends (fun k => (Cs k).yield) C.yield

section
variable {Cs : Nat → Calls'} {C : Calls'}

theorem doCall_tends (hT : Tends Cs C) {id : Id} {f : Nat} {args : List RV} {s : St} {r : OpOut} (h : doCall C id f args s = some r) : Evt fun k => doCall (Cs k) id f args s = some r := by
  unfold doCall at h ⊢
  cases hd : (if shFn f then none else toDs args) with
  | some ds =>
    simp only [hd] at h ⊢
    exact Evt.bind h (fun a ha => hT.pure f ds a ha) (fun a ha => Evt.of fun _ => ha)
  | none =>
    simp only [hd] at h ⊢
    refine Evt.bind h (fun a ha => ?_) (fun a ha => Evt.of fun _ => ha)
    cases hy : hasYld args with
    | true =>
      simp only [hy, if_true] at ha ⊢
      obtain ⟨b, h1, h2⟩ := Option.map_eq_some_iff.mp ha
      exact (hT.iter _ _ f args s.heap id b hT.yield h1).mono fun k hk => by rw [hk]; simp [h2]
    | false =>
      simp only [hy, if_false, Bool.false_eq_true] at ha ⊢
      obtain ⟨b, h1, h2⟩ := Option.map_eq_some_iff.mp ha
      exact (hT.shared f args s.heap id b h1).mono fun k hk => by rw [hk]; simp [h2]

theorem evOp_tends (hT : Tends Cs C) {id : Id} {o : IOp} {s : St} {r : OpOut} (h : evOp C id o s = some r) : Evt fun k => evOp (Cs k) id o s = some r := by
  cases o with
  | call f args =>
    simp only [evOp] at h ⊢
    exact Evt.bind h (fun a ha => Evt.of fun _ => ha) (fun a ha => doCall_tends hT ha)
  | pcall f args =>
    simp only [evOp] at h ⊢
    refine Evt.bind h (fun a ha => Evt.of fun _ => ha) fun a ha => ?_
    refine Evt.bind ha (fun a ha => Evt.of fun _ => ha) fun ds hds => ?_
    exact Evt.bind hds (fun a ha => hT.pure f ds a ha) (fun a ha => Evt.of fun _ => ha)
  | callv f args =>
    simp only [evOp] at h ⊢
    refine Evt.bind h (fun a ha => Evt.of fun _ => ha) fun v hv => ?_
    split at hv
    · exact Evt.bind hv (fun a ha => Evt.of fun _ => ha) (fun a ha => doCall_tends hT ha)
    · exact Evt.bind hv (fun a ha => Evt.of fun _ => ha) (fun a ha => doCall_tends hT ha)
    · refine Evt.bind hv (fun a ha => Evt.of fun _ => ha) fun vs hvs => ?_
      exact Evt.bind hvs (fun a ha => hT.yield _ _ _ _ a ha) (fun a ha => Evt.of fun _ => ha)
    · simp at hv
  | _ => exact Evt.of fun _ => h

theorem evOps_tends (hT : Tends Cs C) : ∀ {os : List IOper} {k : Nat} {s : St} {r : Ex × St}, evOps C k os s = some r → Evt fun m => evOps (Cs m) k os s = some r
  | [], k, s, r, h => Evt.of fun _ => by simpa only [evOps] using h
  | o :: os, k, s, r, h => by
    simp only [evOps] at h ⊢
    refine Evt.bind h (fun a ha => Evt.of fun _ => ha) fun t ht => ?_
    cases t with
    | true =>
      simp only [if_true] at ht ⊢
      refine Evt.bind ht (fun a ha => evOp_tends hT ha) fun x hx => ?_
      cases x with
      | val v s' => exact evOps_tends hT hx
      | pan d s' => exact Evt.of fun _ => hx
    | false =>
      simp only [if_false, Bool.false_eq_true] at ht ⊢
      exact evOps_tends hT ht

theorem seqE_tends {e : Option (Ex × St)} {es : Nat → Option (Ex × St)} {g : St → Option (Ex × St)} {gs : Nat → St → Option (Ex × St)} {r : Ex × St} (h : seqE e g = some r)
    (he : ∀ a, e = some a → Evt fun k => es k = some a) (hg : ∀ s r, g s = some r → Evt fun k => gs k s = some r) : Evt fun k => seqE (es k) (gs k) = some r := by
  unfold seqE at h ⊢
  refine Evt.bind h he fun ⟨x, s⟩ hx => ?_
  cases x with
  | normal => exact hg _ _ hx
  | _ => exact Evt.of fun _ => hx

theorem iter_tends {f : St → Option (Ex × St)} {fs : Nat → St → Option (Ex × St)} (hf : ∀ s r, f s = some r → Evt fun k => fs k s = some r) : ∀ {n : Nat} {s : St} {r : Ex × St}, iter f n s = some r → Evt fun k => iter (fs k) n s = some r
  | 0, s, r, h => by simp [iter] at h
  | n + 1, s, r, h => by
    simp only [iter] at h ⊢
    exact seqE_tends h (fun a ha => hf _ _ ha) (fun s r hr => iter_tends hf hr)
theorem giter_tends (l : Nat) {f : St → Option (Ex × St)} {fs : Nat → St → Option (Ex × St)} (hf : ∀ s r, f s = some r → Evt fun k => fs k s = some r) : ∀ {n : Nat} {s : St} {r : Ex × St}, giter f l n s = some r → Evt fun k => giter (fs k) l n s = some r
  | 0, s, r, h => by simp [giter] at h
  | n + 1, s, r, h => by
    simp only [giter] at h ⊢
    refine Evt.bind h (fun a ha => hf _ _ ha) fun ⟨x, s1⟩ hx => ?_
    cases x with
    | goto m =>
      simp only at hx ⊢
      split at hx
      · rename_i e; simp only [if_pos e]; exact giter_tends l hf hx
      · simp at hx
    | _ => exact Evt.of fun _ => hx

theorem evC0_tends (hT : Tends Cs C) (n : Nat) : ∀ (c : ICode) {s : St} {r : Ex × St}, evC0 C n c s = some r → Evt fun k => evC0 (Cs k) n c s = some r
  | .skip, s, r, h | .exit _, s, r, h | .goto _, s, r, h | .ret, s, r, h => Evt.of fun _ => by simpa only [evC0] using h
  | .fail, s, r, h | .rfn .., s, r, h => by simp [evC0] at h
  | .region _ live ops, s, r, h => by
    simp only [evC0] at h ⊢
    exact Evt.bind h (fun a ha => evOps_tends hT ha) (fun a ha => Evt.of fun _ => ha)
  | .dregion _ live ops, s, r, h => by
    simp only [evC0] at h ⊢
    exact Evt.bind h (fun a ha => evOps_tends hT ha) (fun a ha => Evt.of fun _ => ha)
  | .seq a b, s, r, h => by
    simp only [evC0] at h ⊢
    exact seqE_tends h (fun x hx => evC0_tends hT n a hx) (fun s r hr => evC0_tends hT n b hr)
  | .cond c a b, s, r, h => by
    simp only [evC0] at h ⊢
    refine Evt.bind h (fun a ha => Evt.of fun _ => ha) fun v hv => ?_
    split at hv
    · rename_i t
      cases t with
      | true => simp only [if_true] at hv ⊢; exact evC0_tends hT n a hv
      | false => simp only [if_false, Bool.false_eq_true] at hv ⊢; exact evC0_tends hT n b hv
    · simp at hv
  | .block id c, s, r, h => by
    simp only [evC0] at h ⊢
    exact Evt.bind h (fun a ha => evC0_tends hT n c ha) (fun a ha => Evt.of fun _ => ha)
  | .loop c, s, r, h => by
    simp only [evC0] at h ⊢
    exact iter_tends (fun s r hr => evC0_tends hT n c hr) h
  | .gloop l c, s, r, h => by
    simp only [evC0] at h ⊢
    exact giter_tends l (fun s r hr => evC0_tends hT n c hr) h

theorem roundOf_tends {fa fb : St → Option (Ex × St)} {fas fbs : Nat → St → Option (Ex × St)} (ha : ∀ s r, fa s = some r → Evt fun k => fas k s = some r) (hb : ∀ s r, fb s = some r → Evt fun k => fbs k s = some r)
    (env : Nat → Option RV) (ps : List Nat) (r : Id) : YTends (fun k => roundOf (fas k) (fbs k) env ps r) (roundOf fa fb env ps r) := by
  intro r' vs h id o ho
  unfold roundOf at ho ⊢
  by_cases hr : r' = r
  · simp only [if_pos hr] at ho ⊢
    split at ho
    · refine Evt.bind ho (fun a ha => Evt.of fun _ => ha) fun e he => ?_
      refine Evt.bind he (fun a h1 => ha _ _ h1) fun ⟨x, s1⟩ hx => ?_
      simp only at hx ⊢
      split at hx
      · refine Evt.bind hx (fun a h1 => hb _ _ h1) fun ⟨y, s2⟩ hy => Evt.of fun _ => hy
      · simp at hx
    · simp at ho
  · simp [if_neg hr] at ho

theorem evC_tends (hT : Tends Cs C) (n : Nat) : ∀ (c : ICode) {s : St} {r : Ex × St}, evC C n c s = some r → Evt fun k => evC (Cs k) n c s = some r
  | .skip, s, r, h | .exit _, s, r, h | .goto _, s, r, h | .ret, s, r, h => Evt.of fun _ => by simpa only [evC] using h
  | .fail, s, r, h => by simp [evC] at h
  | .region _ live ops, s, r, h => by
    simp only [evC] at h ⊢
    exact Evt.bind h (fun a ha => evOps_tends hT ha) (fun a ha => Evt.of fun _ => ha)
  | .dregion _ live ops, s, r, h => by
    simp only [evC] at h ⊢
    exact Evt.bind h (fun a ha => evOps_tends hT ha) (fun a ha => Evt.of fun _ => ha)
  | .seq a b, s, r, h => by
    simp only [evC] at h ⊢
    exact seqE_tends h (fun x hx => evC_tends hT n a hx) (fun s r hr => evC_tends hT n b hr)
  | .cond c a b, s, r, h => by
    simp only [evC] at h ⊢
    refine Evt.bind h (fun a ha => Evt.of fun _ => ha) fun v hv => ?_
    split at hv
    · rename_i t
      cases t with
      | true => simp only [if_true] at hv ⊢; exact evC_tends hT n a hv
      | false => simp only [if_false, Bool.false_eq_true] at hv ⊢; exact evC_tends hT n b hv
    · simp at hv
  | .block id c, s, r, h => by
    simp only [evC] at h ⊢
    exact Evt.bind h (fun a ha => evC_tends hT n c ha) (fun a ha => Evt.of fun _ => ha)
  | .loop c, s, r, h => by
    simp only [evC] at h ⊢
    exact iter_tends (fun s r hr => evC_tends hT n c hr) h
  | .gloop l c, s, r, h => by
    simp only [evC] at h ⊢
    exact giter_tends l (fun s r hr => evC_tends hT n c hr) h
  | .rfn g ps a b, s, r, h => by
    simp only [evC] at h ⊢
    refine Evt.bind h (fun a ha => Evt.of fun _ => ha) fun v hv => ?_
    split at hv
    · refine Evt.bind hv (fun x hx => ?_) (fun a ha => Evt.of fun _ => ha)
      exact hT.iter _ _ _ _ _ _ _ (roundOf_tends (fun s r hr => evC0_tends hT bigN a hr) (fun s r hr => evC0_tends hT bigN b hr) _ _ _) hx
    · simp at hv

theorem unw_tends (hT : Tends Cs C) (pre : Id) : ∀ {l : List DE} {k : Nat} {u : Option PD} {h : Heap} {r : Option PD × Heap}, unw C pre l k u h = some r → Evt fun m => unw (Cs m) pre l k u h = some r
  | [], k, u, h, r, hr => Evt.of fun _ => by simpa only [unw] using hr
  | .call f vs :: l, k, u, h, r, hr => by
    simp only [unw] at hr ⊢
    exact Evt.bind hr (fun a ha => hT.dfr _ _ _ _ _ a ha) (fun a ha => unw_tends hT pre ha)
  | .mark d :: l, k, u, h, r, hr => by
    simp only [unw] at hr ⊢
    split at hr
    · exact unw_tends hT pre hr
    · simp at hr

theorem ending_tends (hT : Tends Cs C) {F : IFunc} {u : Option PD} {s : St} {r : Out × Heap} (h : ending C F u s = some r) : Evt fun m => ending (Cs m) F u s = some r := by
  unfold ending at h ⊢
  exact Evt.bind h (fun a ha => unw_tends hT s.pre ha) (fun a ha => Evt.of fun _ => ha)

theorem evBody_tends (hT : Tends Cs C) {n : Nat} {F : IFunc} {args : List RV} {h : Heap} {pre : Id} {r : Out × Heap} (he : evBody C n F args h pre = some r) : Evt fun m => evBody (Cs m) n F args h pre = some r := by
  unfold evBody at he ⊢
  split at he
  · rename_i hl
    simp only [if_pos hl]
    refine Evt.bind he (fun a ha => evC_tends hT n F.body ha) fun ⟨x, s⟩ hx => ?_
    cases x with
    | normal => exact ending_tends hT hx
    | ret => exact ending_tends hT hx
    | panic d => exact ending_tends hT hx
    | exit i => simp at hx
    | goto i => simp at hx
  · simp at he
theorem evDfr_tends (hT : Tends Cs C) {n : Nat} {F : IFunc} {args : List RV} {u : Option PD} {h : Heap} {pre : Id} {r : Heap} (he : evDfr C n F args u h pre = some r) : Evt fun m => evDfr (Cs m) n F args u h pre = some r := by
  unfold evDfr at he ⊢
  split at he
  · rename_i hl
    simp only [if_pos hl]
    exact Evt.bind he (fun a ha => evC_tends hT n F.body ha) (fun a ha => Evt.of fun _ => ha)
  · simp at he
end

theorem evBody_mono {C : Calls'} {n m : Nat} (hle : n ≤ m) {F : IFunc} {args : List RV} {h : Heap} {pre : Id} {r : Out × Heap} (he : evBody C n F args h pre = some r) : evBody C m F args h pre = some r := by
  unfold evBody at he ⊢
  split at he
  · rename_i hl
    simp only [if_pos hl]
    obtain ⟨x, h1, h2⟩ := Option.bind_eq_some_iff.mp he
    rw [evC_mono C hle F.body h1]
    exact h2
  · simp at he
theorem evDfr_mono {C : Calls'} {n m : Nat} (hle : n ≤ m) {F : IFunc} {args : List RV} {u : Option PD} {h : Heap} {pre : Id} {r : Heap} (he : evDfr C n F args u h pre = some r) : evDfr C m F args u h pre = some r := by
  unfold evDfr at he ⊢
  split at he
  · rename_i hl
    simp only [if_pos hl]
    obtain ⟨x, h1, h2⟩ := Option.bind_eq_some_iff.mp he
    rw [evC_mono C hle F.body h1]
    exact h2
  · simp at he

/-- The calls of a program at a depth: G's functions by their code, the others by what B says of them. -/
def callsB (G : IProg) (B : Calls') : Nat → Calls'
  | 0 =>
    { pure := fun f ds => match G f with | some _ => none | none => B.pure f ds
      shared := fun f vs h pre => match G f with | some _ => none | none => B.shared f vs h pre
      dfr := fun f vs u h pre => match G f with | some _ => none | none => B.dfr f vs u h pre }
  | n + 1 =>
    { pure := fun f ds => match G f with | some F => (evBody (callsB G B n) n F (ds.map .data) emptyH []).bind (pureOut F) | none => B.pure f ds
      shared := fun f vs h pre => match G f with | some F => evBody (callsB G B n) n F vs h pre | none => B.shared f vs h pre
      dfr := fun f vs u h pre => match G f with | some F => evDfr (callsB G B n) n F vs u h pre | none => B.dfr f vs u h pre
      iter := fun Y f vs h pre => match G f with | some F => evBody { callsB G B n with yield := Y } n F vs h pre | none => none }

section
variable {G : IProg} {B : Calls'}

theorem callsB_yield (n : Nat) : (callsB G B n).yield = fun _ _ _ _ => none := by cases n <;> rfl

theorem callsB_mono : ∀ {n m : Nat}, n ≤ m → Tends (fun _ => callsB G B m) (callsB G B n)
  | 0, 0, _ => ⟨fun f ds o h => Evt.of fun _ => h, fun f vs h pre o hh => Evt.of fun _ => hh, fun f vs u h pre o hh => Evt.of fun _ => hh, fun Ys Y f vs h pre o _ hh => by simp [callsB] at hh, fun r vs h id o hh => by simp [callsB] at hh⟩
  | 0, m + 1, _ => by
    refine ⟨fun f ds o h => Evt.of fun _ => ?_, fun f vs h pre o hh => Evt.of fun _ => ?_, fun f vs u h pre o hh => Evt.of fun _ => ?_, fun Ys Y f vs h pre o _ hh => by simp [callsB] at hh, fun r vs h id o hh => by simp [callsB] at hh⟩
    · simp only [callsB] at h ⊢; split at h <;> simp_all
    · simp only [callsB] at hh ⊢; split at hh <;> simp_all
    · simp only [callsB] at hh ⊢; split at hh <;> simp_all
  | n + 1, 0, h => by omega
  | n + 1, m + 1, hle => by
    have T := callsB_mono (n := n) (m := m) (by omega)
    have hnm : n ≤ m := by omega
    refine ⟨fun f ds o h => Evt.of fun _ => ?_, fun f vs h pre o hh => Evt.of fun _ => ?_, fun f vs u h pre o hh => Evt.of fun _ => ?_, fun Ys Y f vs h pre o hY hh => ?_, fun r vs h id o hh => by simp [callsB] at hh⟩
    · simp only [callsB] at h ⊢
      split at h
      · rename_i F hF
        obtain ⟨x, h1, h2⟩ := Option.bind_eq_some_iff.mp h
        rw [evBody_mono hnm (evBody_tends T h1).const]; exact h2
      · exact h
    · simp only [callsB] at hh ⊢
      split at hh
      · rename_i F hF
        exact evBody_mono hnm (evBody_tends T hh).const
      · exact hh
    · simp only [callsB] at hh ⊢
      split at hh
      · rename_i F hF
        exact evDfr_mono hnm (evDfr_tends T hh).const
      · exact hh
    · simp only [callsB] at hh ⊢
      split at hh
      · rename_i F hF
        have T' : Tends (fun k => { callsB G B m with yield := Ys k }) { callsB G B n with yield := Y } := ⟨T.pure, T.shared, T.dfr, T.iter, hY⟩
        exact (evBody_tends T' hh).mono fun k hk => evBody_mono hnm hk
      · simp at hh

/-- Whatever some number tells. -/
noncomputable def evAny {α : Type} (g : Nat → Option α) : Option α := by
  classical
  exact if h : ∃ r n, g n = some r then some h.choose else none
theorem evAny_some {α : Type} {g : Nat → Option α} {r : α} (h : evAny g = some r) : ∃ n, g n = some r := by
  unfold evAny at h
  split at h
  · rename_i hx
    have := hx.choose_spec
    simp only [Option.some.injEq] at h
    rw [h] at this
    exact this
  · simp at h
theorem evAny_of {α : Type} {g : Nat → Option α} {r : α} (hm : ∀ n m a, n ≤ m → g n = some a → g m = some a) {n : Nat} (h : g n = some r) : evAny g = some r := by
  unfold evAny
  have hx : ∃ r n, g n = some r := ⟨r, n, h⟩
  rw [dif_pos hx]
  obtain ⟨m, h2⟩ := hx.choose_spec
  have e1 := hm n (max n m) _ (by omega) h
  have e2 := hm m (max n m) _ (by omega) h2
  rw [e1] at e2
  exact e2.symm

/-- The calls of a program. -/
noncomputable def lim (G : IProg) (B : Calls') : Calls' :=
  { pure := fun f ds => evAny fun n => (callsB G B n).pure f ds
    shared := fun f vs h pre => evAny fun n => (callsB G B n).shared f vs h pre
    dfr := fun f vs u h pre => evAny fun n => (callsB G B n).dfr f vs u h pre
    iter := fun Y f vs h pre => evAny fun n => (callsB G B n).iter Y f vs h pre }

theorem lim_tends : Tends (callsB G B) (lim G B) := by
  refine ⟨fun f ds o h => ?_, fun f vs h pre o hh => ?_, fun f vs u h pre o hh => ?_, fun Ys Y f vs h pre o hY hh => ?_, fun r vs h id o hh => by simp [lim] at hh⟩
  · obtain ⟨n, hn⟩ := evAny_some h
    exact ⟨n, fun k hk => ((callsB_mono hk).pure f ds o hn).const⟩
  · obtain ⟨n, hn⟩ := evAny_some hh
    exact ⟨n, fun k hk => ((callsB_mono hk).shared f vs h pre o hn).const⟩
  · obtain ⟨n, hn⟩ := evAny_some hh
    exact ⟨n, fun k hk => ((callsB_mono hk).dfr f vs u h pre o hn).const⟩
  · obtain ⟨n, hn⟩ := evAny_some hh
    obtain ⟨m, hm⟩ := (callsB_mono (G := G) (B := B) (Nat.le_refl n)).iter Ys Y f vs h pre o hY hn
    exact ⟨max n m, fun k hk => ((callsB_mono (G := G) (B := B) (show n ≤ k by omega)).iter (fun _ => Ys k) (Ys k) f vs h pre o (YTends.refl _) (hm k (by omega))).const⟩

theorem mono_pure (f : Nat) (ds : List PD) : ∀ n m a, n ≤ m → (callsB G B n).pure f ds = some a → (callsB G B m).pure f ds = some a := fun n m a hle h => ((callsB_mono hle).pure f ds a h).const
theorem mono_shared (f : Nat) (vs : List RV) (h : Heap) (pre : Id) : ∀ n m a, n ≤ m → (callsB G B n).shared f vs h pre = some a → (callsB G B m).shared f vs h pre = some a := fun n m a hle hh => ((callsB_mono hle).shared f vs h pre a hh).const
theorem mono_dfr (f : Nat) (vs : List RV) (u : Option PD) (h : Heap) (pre : Id) : ∀ n m a, n ≤ m → (callsB G B n).dfr f vs u h pre = some a → (callsB G B m).dfr f vs u h pre = some a := fun n m a hle hh => ((callsB_mono hle).dfr f vs u h pre a hh).const
theorem mono_iter (Y : Yld) (f : Nat) (vs : List RV) (h : Heap) (pre : Id) : ∀ n m a, n ≤ m → (callsB G B n).iter Y f vs h pre = some a → (callsB G B m).iter Y f vs h pre = some a := fun n m a hle hh => ((callsB_mono hle).iter (fun _ => Y) Y f vs h pre a (YTends.refl _) hh).const

/-- What a body of the program comes to over all calls, the call comes to. -/
theorem lim_body {n : Nat} {F : IFunc} {vs : List RV} {h : Heap} {pre : Id} {r : Out × Heap} (he : evBody (lim G B) n F vs h pre = some r) : ∃ k, evBody (callsB G B k) k F vs h pre = some r := by
  obtain ⟨m, hm⟩ := evBody_tends lim_tends he
  exact ⟨max n m, evBody_mono (by omega) (hm _ (by omega))⟩
theorem lim_pure {f : Nat} {F : IFunc} (hF : G f = some F) {ds : List PD} {out : POut} (h : PSpec (lim G B) F ds out) : (lim G B).pure f ds = some out := by
  obtain ⟨n, hn⟩ := PSpec.run h
  obtain ⟨x, h1, h2⟩ := Option.bind_eq_some_iff.mp hn
  obtain ⟨k, hk⟩ := lim_body h1
  refine evAny_of (mono_pure f ds) (n := k + 1) ?_
  simp only [callsB, hF, hk, Option.bind_some]
  exact h2
theorem lim_shared {f : Nat} {F : IFunc} (hF : G f = some F) {n : Nat} {vs : List RV} {h : Heap} {pre : Id} {r : Out × Heap} (he : evBody (lim G B) n F vs h pre = some r) : (lim G B).shared f vs h pre = some r := by
  obtain ⟨k, hk⟩ := lim_body he
  refine evAny_of (mono_shared f vs h pre) (n := k + 1) ?_
  simp only [callsB, hF, hk]
theorem lim_dfr {f : Nat} {F : IFunc} (hF : G f = some F) {n : Nat} {vs : List RV} {u : Option PD} {h : Heap} {pre : Id} {r : Heap} (he : evDfr (lim G B) n F vs u h pre = some r) : (lim G B).dfr f vs u h pre = some r := by
  obtain ⟨m, hm⟩ := evDfr_tends lim_tends he
  refine evAny_of (mono_dfr f vs u h pre) (n := max n m + 1) ?_
  simp only [callsB, hF]
  exact evDfr_mono (by omega) (hm _ (by omega))
theorem lim_iter {f : Nat} {F : IFunc} (hF : G f = some F) {n : Nat} {Y : Yld} {vs : List RV} {h : Heap} {pre : Id} {r : Out × Heap} (he : evBody { lim G B with yield := Y } n F vs h pre = some r) : (lim G B).iter Y f vs h pre = some r := by
  have T : Tends (fun k => { callsB G B k with yield := Y }) { lim G B with yield := Y } := ⟨lim_tends.pure, lim_tends.shared, lim_tends.dfr, lim_tends.iter, YTends.refl Y⟩
  obtain ⟨m, hm⟩ := evBody_tends T he
  refine evAny_of (mono_iter Y f vs h pre) (n := max n m + 1) ?_
  simp only [callsB, hF]
  exact evBody_mono (by omega) (hm _ (by omega))
/-- What B says. -/
theorem lim_base {f : Nat} (hF : G f = none) {ds : List PD} {out : POut} (h : B.pure f ds = some out) : (lim G B).pure f ds = some out := by
  refine evAny_of (mono_pure f ds) (n := 0) ?_
  simp only [callsB, hF]; exact h
theorem lim_base_shared {f : Nat} (hF : G f = none) {vs : List RV} {h : Heap} {pre : Id} {r : Out × Heap} (he : B.shared f vs h pre = some r) : (lim G B).shared f vs h pre = some r := by
  refine evAny_of (mono_shared f vs h pre) (n := 0) ?_
  simp only [callsB, hF]; exact he
end
end Go.Proofs.YtkcbomohgbafoaaDoor
/- The calls of a program at their limit are sound. -/
set_option linter.unusedVariables false
namespace Go.Proofs.YtkcbomohgbafoaaDoor
open Go

/-- The seat's functions are G's. -/
def Fits (P : Program) (Z : Seat) (G : IProg) : Prop := ∀ f F, G f = some F → ∃ fn lv, P.funcs[Z.fi f]? = some fn ∧ (fn.name == "runtime.NumGoroutine") = false ∧ cFunc P Z lv fn = some F

section
variable {P : Program} {Z : Seat} {w0 : World} {G : IProg} {B : Calls'}

theorem callsB_sound (hG : Fits P Z G) (hB : SoundC P Z w0 B) : ∀ n, SoundC P Z w0 (callsB G B n)
  | 0 => by
    refine ⟨fun f ds o h => ?_, fun f vs h pre o hh => ?_, fun f vs u h pre o hh => ?_, fun Y f vs h pre o hh => by simp [callsB] at hh⟩
    · simp only [callsB] at h; split at h; simp at h; exact hB.pure f ds o h
    · simp only [callsB] at hh; split at hh; simp at hh; exact hB.shared f vs h pre o hh
    · simp only [callsB] at hh; split at hh; simp at hh; exact hB.dfr f vs u h pre o hh
  | n + 1 => by
    have ih := callsB_sound hG hB n
    have hY : ∀ r vs h id, (callsB G B n).yield r vs h id = none := fun r vs h id => by rw [callsB_yield]
    refine ⟨fun f ds o h => ?_, fun f vs h pre o hh => ?_, fun f vs u h pre o hh => ?_, fun Y f vs h pre o hh => ?_⟩
    · simp only [callsB] at h
      split at h
      · rename_i F hF
        obtain ⟨fn, lv, h1, h2, h3⟩ := hG f F hF
        exact pure_sound ih hY h1 h2 h3 h
      · exact hB.pure f ds o h
    · simp only [callsB] at hh
      split at hh
      · rename_i F hF
        obtain ⟨fn, lv, h1, h2, h3⟩ := hG f F hF
        exact body_sound ih hY h1 h2 h3 hh
      · exact hB.shared f vs h pre o hh
    · simp only [callsB] at hh
      split at hh
      · rename_i F hF
        obtain ⟨fn, lv, h1, h2, h3⟩ := hG f F hF
        exact dfr_sound ih hY h1 h2 h3 hh
      · exact hB.dfr f vs u h pre o hh
    · simp only [callsB] at hh
      split at hh
      · rename_i F hF
        obtain ⟨fn, lv, h1, h2, h3⟩ := hG f F hF
        exact iter_sound ih h1 h2 h3 hh
      · simp at hh

theorem lim_sound (hG : Fits P Z G) (hB : SoundC P Z w0 B) : SoundC P Z w0 (lim G B) := by
  refine ⟨fun f ds o h => ?_, fun f vs h pre o hh => ?_, fun f vs u h pre o hh => ?_, fun Y f vs h pre o hh => ?_⟩
  · obtain ⟨n, hn⟩ := evAny_some h; exact (callsB_sound hG hB n).pure f ds o hn
  · obtain ⟨n, hn⟩ := evAny_some hh; exact (callsB_sound hG hB n).shared f vs h pre o hn
  · obtain ⟨n, hn⟩ := evAny_some hh; exact (callsB_sound hG hB n).dfr f vs u h pre o hn
  · obtain ⟨n, hn⟩ := evAny_some hh; exact (callsB_sound hG hB n).iter Y f vs h pre o hn
end
end Go.Proofs.YtkcbomohgbafoaaDoor
/- Small lemmas about numbers, rows and bytes, for the functions' specifications. -/
set_option linter.unusedSimpArgs false
namespace Go.Proofs.YtkcbomohgbafoaaDoor
open Go

theorem wrap_u8' (n : Int) : IntKind.wrap .u8 n = n % 256 := by simp [IntKind.wrap, IntKind.bits, IntKind.signed]
theorem wrap_i64' {n : Int} (h1 : -9223372036854775808 ≤ n) (h2 : n ≤ 9223372036854775807) : IntKind.wrap .i64 n = n := by
  have e1 : (2 : Int) ^ IntKind.i64.bits = 18446744073709551616 := by decide
  have e2 : (2 : Int) ^ (IntKind.i64.bits - 1) = 9223372036854775808 := by decide
  have e3 : IntKind.i64.signed = true := rfl
  simp only [IntKind.wrap, e1, e2, e3, Bool.true_and, decide_eq_true_eq]
  split <;> omega
theorem wrap_sub_u8 (a b : UInt8) : IntKind.wrap .u8 ((a.toNat : Int) - b.toNat) = ((a - b).toNat : Int) := by
  have h1 := a.toNat_lt
  have h2 := b.toNat_lt
  rw [wrap_u8', UInt8.toNat_sub]
  omega
theorem or_u8 (a b : UInt8) : ((a ||| b).toNat) = a.toNat ||| b.toNat := UInt8.toNat_or a b

theorem bytesD_get {l : List UInt8} {i : Nat} {c : UInt8} (h : l[i]? = some c) : (bytesD l)[i]? = some (.int .u8 c.toNat) := by simp [bytesD, h]
theorem bytesD_len (l : List UInt8) : (bytesD l).length = l.length := by simp [bytesD]
theorem bytesD_set (l : List UInt8) (i : Nat) (c : UInt8) : (bytesD l).set i (.int .u8 c.toNat) = bytesD (l.set i c) := by simp [bytesD, List.map_set]
theorem set_same {α : Type} {l : List α} {i : Nat} {c : α} (h : l[i]? = some c) : l.set i c = l := by
  apply List.ext_getElem?
  intro j
  by_cases e : i = j
  · subst e
    have := (List.getElem?_eq_some_iff.mp h).1
    rw [List.getElem?_set_self this, h]
  · simp [List.getElem?_set, e]

theorem splice_one {α : Type} (c : α) : ∀ {l : List α} {i : Nat}, i < l.length → splice l i [c] = l.set i c
  | [], _, h => by simp at h
  | x :: l, 0, _ => by cases l <;> simp [splice]
  | x :: l, i + 1, h => by simp only [splice, List.set_cons_succ]; rw [splice_one c (by simpa using h)]
theorem upd_upd {α β : Type} [DecidableEq α] (f : α → Option β) (k : α) (a b : β) : upd (upd f k a) k b = upd f k b := by
  funext x; simp only [upd]; split <;> rfl
theorem allData_row : ∀ l : List PD, allData (l.map .data) = some l
  | [] => rfl
  | x :: l => by simp only [List.map_cons, allData, toD, allData_row l, Option.bind_some]
theorem strD_row : ∀ l : List UInt8, strD (bytesD l) = some l
  | [] => rfl
  | x :: l => by
    have := strD_row l
    simp only [bytesD] at this
    simp [bytesD, strD, this]
theorem or_wrap (a b : UInt8) : IntKind.wrap .u8 (((((a.toNat : Int) % 2 ^ IntKind.u8.bits).toNat ||| ((b.toNat : Int) % 2 ^ IntKind.u8.bits).toNat : Nat)) : Int) = ((a ||| b).toNat : Int) := by
  have h1 := a.toNat_lt
  have h2 := b.toNat_lt
  have h3 := (a ||| b).toNat_lt
  have e : (2 : Int) ^ IntKind.u8.bits = 256 := by decide
  have e1 : ((a.toNat : Int) % 256).toNat = a.toNat := by omega
  have e2 : ((b.toNat : Int) % 256).toNat = b.toNat := by omega
  rw [e, e1, e2, wrap_u8', ← UInt8.toNat_or]
  omega

theorem toDs_data : ∀ l : List PD, toDs (l.map .data) = some l
  | [] => by simp
  | x :: l => by simp [toDs_data l]
theorem toDs_mid (a : List PD) (d : PD) (b : List PD) : toDs (a.map .data ++ .data d :: b.map .data) = some (a ++ d :: b) := by
  have := toDs_data (a ++ d :: b)
  simpa using this

/-- The first place at which a test holds, or -1. -/
def idxI (p : PD → Bool) (l : List PD) : Int := match l.findIdx? p with | some i => i | none => -1
theorem idxI_at {p : PD → Bool} {l : List PD} {i : Nat} {d : PD} (h : l[i]? = some d) (hp : p d = true) (hb : ∀ j e, j < i → l[j]? = some e → p e = false) : idxI p l = i := by
  obtain ⟨hi, rfl⟩ := List.getElem?_eq_some_iff.mp h
  have : l.findIdx? p = some i := by
    rw [List.findIdx?_eq_some_iff_getElem]
    exact ⟨hi, hp, fun j hj => by rw [hb j _ hj (List.getElem?_eq_getElem _)]; simp⟩
  simp [idxI, this]
theorem idxI_none {p : PD → Bool} {l : List PD} (hb : ∀ j e, j < l.length → l[j]? = some e → p e = false) : idxI p l = -1 := by
  have : l.findIdx? p = none := by
    rw [List.findIdx?_eq_none_iff]
    intro x hx
    obtain ⟨j, hj, rfl⟩ := List.getElem_of_mem hx
    exact hb j _ hj (List.getElem?_eq_getElem hj)
  simp [idxI, this]
theorem idxI_any (p : PD → Bool) (l : List PD) : decide (0 ≤ idxI p l) = l.any p := by
  by_cases h : ∃ i, l.findIdx? p = some i
  · obtain ⟨i, h⟩ := h
    have h2 : l.any p = true := by
      rw [List.findIdx?_eq_some_iff_getElem] at h
      obtain ⟨hi, hp, _⟩ := h
      exact List.any_eq_true.mpr ⟨_, List.getElem_mem hi, hp⟩
    simp [idxI, h, h2]
  · have h1 : l.findIdx? p = none := by
      cases e : l.findIdx? p with
      | none => rfl
      | some i => exact (h ⟨i, e⟩).elim
    have h2 : l.any p = false := by
      rw [List.findIdx?_eq_none_iff] at h1
      rw [List.any_eq_false]
      intro x hx
      simp [h1 x hx]
    simp [idxI, h1, h2]

/-- What a function that shares the heap comes to: an outcome, and this heap but for its own objects. -/
def SubH (pre : Id) (o : Out) (H : Heap) (r : Out × Heap) : Prop := r.1 = o ∧ drop pre r.2 = drop pre H
def SSpec (C : Calls') (F : IFunc) (vs : List RV) (h : Heap) (pre : Id) (o : Out) (H : Heap) : Prop := Body C F vs h pre (SubH pre o H)

/-- What a deferred function that recovers comes to: this heap but for its own objects. -/
def DfrH (H : Heap) (pre : Id) (r : Ex × St) : Prop :=
  (r.1 = .normal ∨ r.1 = .ret) ∧ r.2.dfs = [] ∧ r.2.rv = none ∧ drop pre r.2.heap = drop pre H
def DSpec (C : Calls') (F : IFunc) (vs : List RV) (u : Option PD) (h : Heap) (pre : Id) (H : Heap) : Prop :=
  vs.length = F.nargs ∧ recFirst F.body = true ∧ F.results = [] ∧ Runs C F.body [] { env := enter vs, heap := h, pre, next := 0, rv := some (u.getD .nilI) } (DfrH H pre)
theorem DSpec.run {C : Calls'} {F : IFunc} {vs : List RV} {u : Option PD} {h : Heap} {pre : Id} {H : Heap} (hs : DSpec C F vs u h pre H) : ∃ n, evDfr C n F vs u h pre = some (drop pre H) := by
  obtain ⟨h1, h2, h3, n, ⟨x, s⟩, h4, h5, h6, h7, h8⟩ := hs
  have h4' : evC C n F.body { env := enter vs, heap := h, pre, next := 0, rv := some (u.getD .nilI) } = some (x, s) := by
    simp only [Option.bind_eq_some_iff] at h4
    obtain ⟨y, k4, k5⟩ := h4
    simp only [evK, Option.some.injEq] at k5
    rw [k4, k5]
  refine ⟨n, ?_⟩
  simp only at h5 h6 h7 h8
  rcases h5 with rfl | rfl <;> simp [evDfr, h1, h2, h3, h4', h6, h7, h8]

theorem drop_drop (p : Id) (h : Heap) : drop p (drop p h) = drop p h := by
  funext i; simp only [drop]; split <;> simp_all

/-- Outcomes that name no object. -/
def bare : Out → Bool
  | .ret v => noIds v
  | .pan _ => true
theorem after_bare {pre : Id} {o : Out} (hb : bare o = true) (h : Heap) : after pre (o, h) = (o, drop pre h) := by
  cases o with
  | ret v => simp only [bare] at hb; simp [after, hb]
  | pan d => rfl
section
variable {G : IProg} {B : Calls'}
/-- The call of a function of the program that shares the heap. -/
theorem lim_sub {f : Nat} {F : IFunc} (hF : G f = some F) {vs : List RV} {h : Heap} {pre : Id} {o : Out} {H : Heap} (hs : SSpec (lim G B) F vs h pre o H) (hb : bare o = true) : ((lim G B).shared f vs h pre).map (after pre) = some (o, drop pre H) := by
  obtain ⟨n, ⟨o', h'⟩, h1, rfl, h3⟩ := Body.run hs
  rw [lim_shared hF h1, Option.map_some, after_bare hb]
  simp only at h3
  rw [h3]
/-- A deferred call of a function of the program. -/
theorem lim_rec {f : Nat} {F : IFunc} (hF : G f = some F) {vs : List RV} {u : Option PD} {h : Heap} {pre : Id} {H : Heap} (hs : DSpec (lim G B) F vs u h pre H) : (lim G B).dfr f vs u h pre = some (drop pre H) := by
  obtain ⟨n, hn⟩ := DSpec.run hs
  exact lim_dfr hF hn
end

end Go.Proofs.YtkcbomohgbafoaaDoor
