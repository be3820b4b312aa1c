/- Loops over functions: the parts. -/
import Derived.Test.YtkcbomohgbafoaaDoorEd
set_option linter.unusedVariables false
set_option linter.unusedSimpArgs false
namespace Go.Proofs.YtkcbomohgbafoaaDoor
open Go

theorem evC0_le {C : Calls'} {n : Nat} : ∀ (c : ICode) {s : St} {r : Ex × St}, evC0 C n c s = some r → evC C n c s = some r
  | .skip, s, r, h | .exit _, s, r, h | .goto _, s, r, h | .ret, s, r, h | .fail, s, r, h | .region .., s, r, h | .dregion .., s, r, h => by simpa only [evC, evC0] using h
  | .rfn .., s, r, h => by simp [evC0] at h
  | .seq a b, s, r, h => by
    simp only [evC, evC0, seqE, Option.bind_eq_some_iff] at h ⊢
    obtain ⟨⟨x, s1⟩, h1, h2⟩ := h
    refine ⟨(x, s1), evC0_le a h1, ?_⟩
    cases x with
    | normal => exact evC0_le b h2
    | _ => exact h2
  | .cond c a b, s, r, h => by
    simp only [evC, evC0, Option.bind_eq_some_iff] at h ⊢
    obtain ⟨v, h1, h2⟩ := h
    refine ⟨v, h1, ?_⟩
    split at h2
    · rename_i t
      cases t with
      | true => simp only [if_true] at h2 ⊢; exact evC0_le a h2
      | false => simp only [Bool.false_eq_true, if_false] at h2 ⊢; exact evC0_le b h2
    · simp at h2
  | .block id c, s, r, h => by
    simp only [evC, evC0, Option.bind_eq_some_iff] at h ⊢
    obtain ⟨x, h1, h2⟩ := h
    exact ⟨x, evC0_le c h1, h2⟩
  | .loop c, s, r, h => by
    simp only [evC, evC0] at h ⊢
    have : ∀ (m : Nat) (s : St) (r : Ex × St), iter (evC0 C n c) m s = some r → iter (evC C n c) m s = some r := by
      intro m
      induction m with
      | zero => intro s r h; simp [iter] at h
      | succ m ih =>
        intro s r h
        simp only [iter, seqE, Option.bind_eq_some_iff] at h ⊢
        obtain ⟨⟨x, s1⟩, h1, h2⟩ := h
        refine ⟨(x, s1), evC0_le c h1, ?_⟩
        cases x with
        | normal => exact ih _ _ h2
        | _ => exact h2
    exact this n s r h
  | .gloop l c, s, r, h => by
    simp only [evC, evC0] at h ⊢
    have : ∀ (m : Nat) (s : St) (r : Ex × St), giter (evC0 C n c) l m s = some r → giter (evC C n c) l m s = some r := by
      intro m
      induction m with
      | zero => intro s r h; simp [giter] at h
      | succ m ih =>
        intro s r h
        simp only [giter, Option.bind_eq_some_iff] at h ⊢
        obtain ⟨⟨x, s1⟩, h1, h2⟩ := h
        refine ⟨(x, s1), evC0_le c h1, ?_⟩
        cases x with
        | goto i =>
          simp only at h2 ⊢
          split at h2
          · rename_i e; rw [if_pos e]; exact ih _ _ h2
          · simp at h2
        | _ => exact h2
    exact this n s r h

section
variable {P : Program} {Z : Seat} {w0 : World} {bc : Conf} {c : Conf} {s s' : St} {a : Act} {C : Calls'} {nt : Nat}

theorem setMany_sound {c : Conf} : ∀ {ps : List Nat} {vs : List RV} {xs : List Value} {env e : Nat → Option RV} {tmps : Array Value}, setMany env ps vs = some e → EnvOK Z c env tmps → RepRs Z c vs xs → (∀ p ∈ ps, p < tmps.size) →
    xs.length = ps.length ∧ EnvOK Z c e ((ps.zip xs).foldl (fun tmps (p : Nat × Value) => tmps.setIfInBounds p.1 p.2) tmps) ∧ ((ps.zip xs).foldl (fun tmps (p : Nat × Value) => tmps.setIfInBounds p.1 p.2) tmps).size = tmps.size
  | [], [], xs, env, e, tmps, h, he, hr, hp => by
    simp only [setMany, Option.some.injEq] at h
    subst h
    simp only [RepRs] at hr
    subst hr
    exact ⟨rfl, by simpa using he, by simp⟩
  | [], _ :: _, xs, env, e, tmps, h, he, hr, hp => by simp [setMany] at h
  | _ :: _, [], xs, env, e, tmps, h, he, hr, hp => by simp [setMany] at h
  | p :: ps, v :: vs, xs, env, e, tmps, h, he, hr, hp => by
    simp only [setMany] at h
    simp only [RepRs] at hr
    obtain ⟨x, t, rfl, h1, h2⟩ := hr
    obtain ⟨g1, g2, g3⟩ := setMany_sound (tmps := tmps.setIfInBounds p x) h (EnvOK.set Z he (hp p (by simp)) h1) h2 (fun q hq => by simpa using hp q (by simp [hq]))
    refine ⟨by simp [g1], ?_, ?_⟩
    · simpa using g2
    · simpa using g3

/-- An object of ours is turned for the last time. -/
theorem Step.remove (hH : HeapOK Z c) {id : Id} {o : AObj} (hid : c.H id = some o) (hnt : ∀ e sz n, o ≠ .tok e sz n) (him : c.g.imm (c.g.blk id) = 0) {w' : World} (hsz : w'.heap.size = c.w.heap.size) (hb : ∀ b, b ≠ c.g.blk id → w'.heap[b]? = c.w.heap[b]?) (h1 : w'.os = c.w.os) (h2 : w'.tape = c.w.tape) (h3 : w'.output = c.w.output) :
    Step c ⟨c.g, w', forgetI id c.H⟩ ∧ HeapOK Z ⟨c.g, w', forgetI id c.H⟩ := by
  have hblk : objBlk c.g id o = c.g.blk id := by
    cases o with
    | tok e sz n => exact absurd rfl (hnt e sz n)
    | _ => rfl
  have hv : c.I.le (view c.g w') := by
    intro b k v hv
    obtain ⟨h4, h5⟩ := view_some hv
    unfold view
    rw [if_pos h4, cell_of_heap (hb b (by rintro rfl; rw [him] at h4; omega))]
    exact h5
  have hsub : ∀ i q, forgetI id c.H i = some q → i ≠ id ∧ c.H i = some q := by
    intro i q h
    unfold forgetI at h
    split at h
    · simp at h
    · exact ⟨‹_›, h⟩
  have ev : Evolve c ⟨c.g, w', forgetI id c.H⟩ := ⟨fun _ h => h, fun _ _ => rfl, hv, fun t ht e sz n h => ⟨n, (hsub t _ h).2, Nat.le_refl _, fun _ => ⟨rfl, rfl⟩⟩, by simp only; omega, fun _ _ => rfl⟩
  refine ⟨⟨ev, fun b hlt hne => ⟨hb b (fun e => hne id o hid (by rw [hblk, e])), rfl⟩, fun i q h => .inr ⟨i, q, (hsub i q h).2, rfl⟩, h1, h2, h3⟩, fun i q h => ?_, fun i j o1 o2 h h' e => ?_⟩
  · obtain ⟨hi, hq⟩ := hsub i q h
    obtain ⟨hD, hr⟩ := hH.obj i q hq
    have hne : objBlk c.g i q ≠ c.g.blk id := fun e' => hi (hH.one i id q o hq hid (by rw [hblk]; exact e'))
    exact ⟨hD, ObjR.kept Z ev hr hD (fun _ _ _ _ => ⟨rfl, rfl⟩) (hb _ hne) rfl⟩
  · exact hH.one i j o1 o2 (hsub i _ h).2 (hsub j _ h').2 e

/-- A loop's record is turned. -/
theorem Step.lrec (hH : HeapOK Z c) {r : Id} {st st' : LoopSt} (hr : c.H r = some (.lrec st)) :
    let w' := c.w.putObj (c.g.blk r) (.loop { c.g.lp r with state := stOf st', pending := pendOf st' })
    Step c ⟨c.g, w', upd c.H r (.lrec st')⟩ ∧ HeapOK Z ⟨c.g, w', upd c.H r (.lrec st')⟩ := by
  intro w'
  obtain ⟨hD, hb, him⟩ := hH.obj r _ hr
  refine Step.inside Z hH hr (by simp) (by simp) him (by simp [w']) (fun b hb => World.putObj_heap_other hb) rfl rfl rfl fun ev => ⟨?_, him⟩
  exact World.putObj_heap_same (Array.getElem?_eq_some_iff.1 hb).1

end
end Go.Proofs.YtkcbomohgbafoaaDoor
/- Part of the text. -/
set_option linter.unusedVariables false
set_option linter.unusedSimpArgs false
namespace Go.Proofs.YtkcbomohgbafoaaDoor
open Go

section
variable {P : Program} {Z : Seat} {w0 : World} {bc : Conf} {c : Conf} {s s' : St} {a : Act} {C : Calls'} {nt : Nat} {R : Option Nat}

theorem cOpers_lt {ops : Array Oper} : ∀ {l : List Oper} {is : List IOper}, cOpers P Z nt ops l = some is → ∀ (j : Nat) (d : Tmp), (l[j]?).bind (·.dst) = some d → d < nt
  | [], is, h, j, d, hd => by simp at hd
  | o :: r, is, h, j, d, hd => by
    simp only [cOpers, Option.bind_eq_some_iff] at h
    obtain ⟨io, h1, il, h2, _⟩ := h
    cases j with
    | zero =>
      simp only [List.getElem?_cons_zero, Option.bind_some] at hd
      unfold cOper at h1
      split at h1
      · rename_i hlt
        rw [hd] at hlt
        simpa using hlt
      · simp at h1
    | succ j => exact cOpers_lt h2 j d (by simpa using hd)

theorem PostG.trans {x0 x : Ex} {s1 : St} {k n n' : Nat} {e0 e : Exit} {a1 a' : Act} {w1 w' : World} {g1 g' : Gh} (h : PostG Z nt c s a x0 s1 k n e0 a1 w1 g1) (h' : PostG Z nt ⟨g1, w1, s1.heap⟩ s1 a1 x s' n n' e a' w' g') (hkn : k ≤ n) (hnn : n ≤ n') :
    PostG Z nt c s a x s' k n' e a' w' g' := by
  refine ⟨h.step.trans h'.step, h'.heap, fun j hj => ?_, h'.pre.trans h.pre, h'.size, h'.dfs, h'.rv, h'.ex⟩
  rcases h'.D j hj with h1 | ⟨m, h1, h2, h3⟩
  · rcases h.D j h1 with h1 | ⟨m, h1, h2, h3⟩
    · exact .inl h1
    · exact .inr ⟨m, h1, by omega, h3⟩
  · exact .inr ⟨m, by omega, h2, by rw [← h.pre]; exact h3⟩

theorem PostG.sr {x : Ex} {k n : Nat} {e : Exit} {a' : Act} {w' : World} {g' : Gh} (hs : SR Z w0 bc nt c s a k) (h : PostG Z nt c s a x s' k n e a' w' g') (hkn : k ≤ n) (he : EnvOK Z ⟨g', w', s'.heap⟩ s'.env a'.tmps) : SR Z w0 bc nt ⟨g', w', s'.heap⟩ s' a' n := by
  refine ⟨hs.under.step h.step, hs.ev.trans h.step.ev, rfl, h.heap, he, h.size, fun i hi m hm => ?_, h.dfs, h.rv⟩
  rw [h.pre]
  rcases h.D i hi with h1 | ⟨m0, h1, h2, h3⟩
  · exact hs.fresh i h1 m (by omega)
  · intro h4
    have := prefix_one h3 h4
    omega

theorem ExOK.normal {c : Conf} {s : St} {a : Act} {e : Exit} (h : ExOK Z c s a .normal e) : e = .normal ∧ EnvOK Z c s.env a.tmps := by
  cases e <;> simp only [ExOK] at h
  exact ⟨rfl, h⟩

def PQ (Z : Seat) (nt : Nat) (c : Conf) (s : St) (a : Act) (x : Ex) (s' : St) (e : Exit) (a' : Act) (w' : World) : Prop := s.next ≤ s'.next ∧ Post Z nt c s a x s' s.next s'.next e a' w'

/-- What is known of a piece of code. -/
def Good (P : Program) (Z : Seat) (w0 : World) (bc : Conf) (nt : Nat) (R : Option Nat) (code : Code) (f : St → Option (Ex × St)) : Prop := ∀ (c : Conf) (s : St) (a : Act) (x : Ex) (s' : St), f s = some (x, s') → SR Z w0 bc nt c s a s.next → code.wpIn (FR R) 0 P (PQ Z nt c s a x s') a c.w

theorem PQ.trans {x0 x : Ex} {s1 : St} {e0 e : Exit} {a1 a' : Act} {w1 w' : World} {g1 : Gh} (hle : s.next ≤ s1.next) (h : PostG Z nt c s a x0 s1 s.next s1.next e0 a1 w1 g1) (h' : PQ Z nt ⟨g1, w1, s1.heap⟩ s1 a1 x s' e a' w') : PQ Z nt c s a x s' e a' w' := by
  obtain ⟨h1, g', h2⟩ := h'
  exact ⟨by omega, g', h.trans h2 hle h1⟩

theorem good_seq {x y : Code} {f g : St → Option (Ex × St)} (hx : Good P Z w0 bc nt R x f) (hy : Good P Z w0 bc nt R y g) : Good P Z w0 bc nt R (.seq x y) (fun s => seqE (f s) g) := by
  intro c s a ex s' he hs
  simp only [seqE, Option.bind_eq_some_iff] at he
  obtain ⟨⟨x1, s1⟩, h1, h2⟩ := he
  refine wpIn_seq (wpIn_mono (hx c s a x1 s1 h1 hs) fun e a1 w1 hq => ?_)
  obtain ⟨hle, g1, hp⟩ := hq
  cases x1 with
  | normal =>
    obtain ⟨rfl, henv⟩ := ExOK.normal hp.ex
    simp only at h2
    exact wpIn_mono (hy ⟨g1, w1, s1.heap⟩ s1 a1 ex s' h2 (hp.sr hs hle henv)) fun e a' w' hq' => PQ.trans hle hp hq'
  | _ =>
    simp only [Option.some.injEq, Prod.mk.injEq] at h2
    obtain ⟨rfl, rfl⟩ := h2
    have hex := hp.ex
    cases e <;> first | (simp only [ExOK] at hex; done) | exact ⟨hle, g1, hp⟩

theorem good_block {id : Nat} {x : Code} {f : St → Option (Ex × St)} (hx : Good P Z w0 bc nt R x f) : Good P Z w0 bc nt R (.block id x) (fun s => (f s).bind fun (x, s') => match x with | .exit i => if i = id then some (.normal, s') else some (.exit i, s') | x => some (x, s')) := by
  intro c s a ex s' he hs
  simp only [Option.bind_eq_some_iff] at he
  obtain ⟨⟨x1, s1⟩, h1, h2⟩ := he
  refine wpIn_block (wpIn_mono (hx c s a x1 s1 h1 hs) fun e a1 w1 hq => ?_)
  obtain ⟨hle, g1, hp⟩ := hq
  have hex := hp.ex
  cases x1 with
  | exit i =>
    cases e <;> simp only [ExOK] at hex
    rename_i j
    obtain ⟨rfl, henv⟩ := hex
    simp only at h2
    simp only [Exit.inBlock]
    split at h2
    · rename_i hi
      simp only [Option.some.injEq, Prod.mk.injEq] at h2
      obtain ⟨rfl, rfl⟩ := h2
      rw [if_pos hi]
      exact ⟨hle, g1, hp.step, hp.heap, hp.D, hp.pre, hp.size, hp.dfs, hp.rv, henv⟩
    · rename_i hi
      simp only [Option.some.injEq, Prod.mk.injEq] at h2
      obtain ⟨rfl, rfl⟩ := h2
      rw [if_neg hi]
      exact ⟨hle, g1, hp⟩
  | _ =>
    simp only [Option.some.injEq, Prod.mk.injEq] at h2
    obtain ⟨rfl, rfl⟩ := h2
    cases e <;> first | (simp only [ExOK] at hex; done) | exact ⟨hle, g1, hp⟩

theorem good_loop {x : Code} {f : St → Option (Ex × St)} (hx : Good P Z w0 bc nt R x f) (n : Nat) : Good P Z w0 bc nt R (.loop x) (iter f n) := by
  have key : ∀ n c s a ex s', iter f n s = some (ex, s') → SR Z w0 bc nt c s a s.next → ∀ (b : Frame) (k : List Item) (cs : List Frame), b.roundOf = (FR R).round → (FR R).fn b.fn → (FR R).room (cs.length + 1 + 0) → ∃ e a' w', PQ Z nt c s a ex s' e a' w' ∧ ArrivesIn (Machine.fenced P (FR R)) P (lone (b.atR a (.code x :: .inLoop x :: k)) cs c.w) b k cs e a' w' := by
    intro n
    induction n with
    | zero => intro c s a ex s' he; simp [iter] at he
    | succ n ih =>
      intro c s a ex s' he hs b k cs hro hb hr
      simp only [iter, seqE, Option.bind_eq_some_iff] at he
      obtain ⟨⟨x1, s1⟩, h1, h2⟩ := he
      obtain ⟨e, a1, w1, ⟨hle, g1, hp⟩, harr⟩ := hx c s a x1 s1 h1 hs b (.inLoop x :: k) cs hro hb hr
      cases x1 with
      | normal =>
        obtain ⟨rfl, henv⟩ := ExOK.normal hp.ex
        simp only at h2
        obtain ⟨e2, a2, w2, hq2, harr2⟩ := ih ⟨g1, w1, s1.heap⟩ s1 a1 ex s' h2 (hp.sr hs hle henv) b k cs hro hb hr
        exact ⟨e2, a2, w2, PQ.trans hle hp hq2, .of_steps (StepsIn.trans harr (.one (fenced_calm hb hr rfl) stepR_inLoop)) harr2⟩
      | _ =>
        simp only [Option.some.injEq, Prod.mk.injEq] at h2
        obtain ⟨rfl, rfl⟩ := h2
        have hex := hp.ex
        refine ⟨e, a1, w1, ⟨hle, g1, hp⟩, .pass (x := .inLoop x) rfl (fun _ _ => .inl ?_) harr⟩
        cases e <;> first | (simp only [ExOK] at hex; done) | simp
  intro c s a ex s' he hs b k cs hro hb hr
  obtain ⟨e, a', w', hq, harr⟩ := key n c s a ex s' he hs b k cs hro hb hr
  exact ⟨e, a', w', hq, .of_steps (.one (fenced_calm hb hr rfl) stepR_loop) harr⟩

theorem stepR_scope' {b : Frame} {a : Act} {k : List Item} {cs : List Frame} {w : World} {c : Code} : step P (lone (b.atR a (.code (.scope c) :: k)) cs w) = .next (lone (b.atR a (.code c :: .inScope c :: k)) cs w) :=
  step_lone_go (by simp [stepG, stepG.exec, Frame.atR])
theorem stepR_inScope' {b : Frame} {a : Act} {k : List Item} {cs : List Frame} {w : World} {c : Code} : step P (lone (b.atR a (.inScope c :: k)) cs w) = .next (lone (b.atR a k) cs w) :=
  step_lone_go (by simp [stepG, stepG.exec, Frame.atR])

theorem good_gloop {l : Nat} {x : Code} {f : St → Option (Ex × St)} (hx : Good P Z w0 bc nt R x f) (n : Nat) : Good P Z w0 bc nt R (.scope (.seq (.label l) x)) (giter f l n) := by
  have hf : findLabel (.seq (.label l) x) l = some (.seq .skip x) := by simp [findLabel]
  have key : ∀ n c s a ex s', giter f l n s = some (ex, s') → SR Z w0 bc nt c s a s.next → ∀ (b : Frame) (k : List Item) (cs : List Frame) (d : Code), b.roundOf = (FR R).round → (FR R).fn b.fn → (FR R).room (cs.length + 1 + 0) → d = .skip ∨ d = .label l →
      ∃ e a' w', PQ Z nt c s a ex s' e a' w' ∧ ArrivesIn (Machine.fenced P (FR R)) P (lone (b.atR a (.code (.seq d x) :: .inScope (.seq (.label l) x) :: k)) cs c.w) b k cs e a' w' := by
    intro n
    induction n with
    | zero => intro c s a ex s' he; simp [giter] at he
    | succ n ih =>
      intro c s a ex s' he hs b k cs d hro hb hr hd
      simp only [giter, Option.bind_eq_some_iff] at he
      obtain ⟨⟨x1, s1⟩, h1, h2⟩ := he
      have hdx : (Code.seq d x).wpIn (FR R) 0 P (PQ Z nt c s a x1 s1) a c.w := by
        refine wpIn_seq ?_
        have := hx c s a x1 s1 h1 hs
        rcases hd with rfl | rfl
        · exact wpIn_skip this
        · exact wpIn_label this
      have hg : gotoIn l (.inScope (.seq (.label l) x) :: k) = some (.code (.seq .skip x) :: .inScope (.seq (.label l) x) :: k) := by simp [gotoIn, hf]
      obtain ⟨e, a1, w1, ⟨hle, g1, hp⟩, harr⟩ := hdx b (.inScope (.seq (.label l) x) :: k) cs hro hb hr
      have hex := hp.ex
      cases x1 with
      | goto m =>
        cases e <;> simp only [ExOK] at hex
        rename_i j
        obtain ⟨rfl, henv⟩ := hex
        simp only at h2
        split at h2
        · rename_i hm
          subst hm
          obtain ⟨e2, a2, w2, hq2, harr2⟩ := ih ⟨g1, w1, s1.heap⟩ s1 a1 ex s' h2 (hp.sr hs hle henv) b k cs .skip hro hb hr (.inl rfl)
          exact ⟨e2, a2, w2, PQ.trans hle hp hq2, .of_steps (harr.1 _ hg) harr2⟩
        · simp at h2
      | normal =>
        simp only [Option.some.injEq, Prod.mk.injEq] at h2
        obtain ⟨rfl, rfl⟩ := h2
        obtain ⟨rfl, henv⟩ := ExOK.normal hex
        exact ⟨.normal, a1, w1, ⟨hle, g1, hp⟩, StepsIn.trans harr (.one (fenced_calm hb hr rfl) stepR_inScope')⟩
      | exit i =>
        simp only [Option.some.injEq, Prod.mk.injEq] at h2
        obtain ⟨rfl, rfl⟩ := h2
        cases e <;> simp only [ExOK] at hex
        exact ⟨_, a1, w1, ⟨hle, g1, hp⟩, fun k' hk => harr.1 k' (by simp [exitTo, hk]), fun hr' hk => harr.2 hr' (by simp [exitTo, hk])⟩
      | ret =>
        simp only [Option.some.injEq, Prod.mk.injEq] at h2
        obtain ⟨rfl, rfl⟩ := h2
        cases e <;> simp only [ExOK] at hex
        exact ⟨_, a1, w1, ⟨hle, g1, hp⟩, harr⟩
      | panic d =>
        simp only [Option.some.injEq, Prod.mk.injEq] at h2
        obtain ⟨rfl, rfl⟩ := h2
        cases e <;> simp only [ExOK] at hex
        exact ⟨_, a1, w1, ⟨hle, g1, hp⟩, harr⟩
  intro c s a ex s' he hs b k cs hro hb hr
  obtain ⟨e, a', w', hq, harr⟩ := key n c s a ex s' he hs b k cs (.label l) hro hb hr (.inr rfl)
  exact ⟨e, a', w', hq, .of_steps (.one (fenced_calm hb hr rfl) stepR_scope') harr⟩

theorem good_region (m : Bool) (hC : SoundB P Z w0 bc C) {id : Nat} {ops : Array Oper} {is : List IOper} {live : List Nat} (hc : cOpers P Z nt ops ops.toList = some is) (hR : R = none ∨ ∀ o ∈ is, isDfr o.op = false) :
    Good P Z w0 bc nt R (.region id ops false) (fun s => (evOps C s.next (is.map (fixO m)) { s with next := s.next + (is.map (fixO m)).length }).bind fun (x, s') => some (x, { s' with env := keep s'.env live })) := by
  intro c s a x s' he hs
  simp only [Option.bind_eq_some_iff, Option.some.injEq, Prod.mk.injEq] at he
  obtain ⟨⟨x1, s1⟩, h1, rfl, rfl⟩ := he
  refine wpIn_region_list (ops_sound m hC (nt := nt) (fun j d hd => cOpers_lt hc j d (by simpa using hd)) ops.toList is hc hR s.next c { s with next := s.next + (is.map (fixO m)).length } a x1 s1 h1 ⟨hs.under, hs.ev, hs.H, hs.heap, hs.env, hs.size, hs.fresh, hs.dfs, hs.rv⟩ fun e a' w' hp hn => ?_)
  obtain ⟨g', hp⟩ := hp
  simp only at hn
  refine ⟨by simp only [hn]; omega, g', hp.step, hp.heap, fun j hj => ?_, hp.pre, hp.size, hp.dfs, hp.rv, ?_⟩
  · simp only [hn, List.length_map]
    exact hp.D j hj
  · have hex := hp.ex
    cases x1 <;> cases e <;> simp only [ExOK] at hex ⊢ <;> first | exact hex.elim | exact EnvOK.keep Z hex _ | exact ⟨hex.1, EnvOK.keep Z hex.2 _⟩

theorem good_draw (hC : SoundB P Z w0 bc C) {id : Nat} {ops : Array Oper} {is : List IOper} {live : List Nat} (hc : cOpers P Z nt ops ops.toList = some is) (hd : drawOK ops (is.map pureCall) = true) (hR : R = none ∨ ∀ o ∈ is, isDfr o.op = false) :
    Good P Z w0 bc nt R (.region id ops true) (fun s => (evOps C s.next (is.map pureCall) { s with next := s.next + (is.map pureCall).length }).bind fun (x, s') =>
      match x with
      | .normal => some (.normal, { s' with env := keep s'.env live })
      | _ => none) := by
  intro c s a x s' he hs
  simp only [Option.bind_eq_some_iff] at he
  obtain ⟨⟨x1, s1⟩, h1, h2⟩ := he
  cases x1 <;> simp only [Option.some.injEq, Prod.mk.injEq, reduceCtorEq] at h2
  obtain ⟨rfl, rfl⟩ := h2
  have hlen : ops.size = is.length := by simpa using (cOpers_get hc).1
  have hw := Step.world Z hs.heap (w' := { c.w with drawn := c.w.drawn + 1 }) (imm' := c.g.imm) (Nat.le_refl _) (fun _ _ => rfl) (fun _ _ => rfl) rfl rfl rfl
  have key : ∀ md, wpAnyIn (FR R) 0 P md ops (PQ Z nt c s a .normal { s1 with env := keep s1.env live }) ops.size (Array.replicate ops.size false) a { c.w with drawn := c.w.drawn + 1 } := by
    intro md
    refine any_sound hC hc hd hR s.next md ops.size (Array.replicate ops.size false) (enumI 0 (is.map pureCall)) ⟨c.g, { c.w with drawn := c.w.drawn + 1 }, c.H⟩ { s with next := s.next + (is.map pureCall).length } a s1 (by simp) (by rw [enumI_length]; simp [hlen]) (enumI_sorted _ _) (fun i o ho => ?_) (fun i hi _ => ?_) (fun i hi => ?_) (runI_of (j := 0) h1) (hs.under.step hw.1) (hs.ev.trans hw.1.ev) hs.H hw.2 (hs.env.mono Z hw.1.ev) hs.size (fun i hi p _ => hs.fresh i hi _ (by omega)) (hs.dfs.mono hw.1.ev) hs.rv (fun a' w' hp hn => ?_)
    · obtain ⟨_, g1⟩ := enumI_get ho
      refine ⟨by simpa using g1, ?_⟩
      have : i < ops.size := by
        have := (List.getElem?_eq_some_iff.1 g1).1
        simp at this
        omega
      simp [Array.getD_eq_getD_getElem?, this]
    · have hi2 : i < (is.map pureCall).length := by simp; omega
      have := enumI_mem (j := 0) (List.getElem?_eq_getElem hi2)
      rw [Nat.zero_add] at this
      exact ⟨_, this⟩
    · exfalso
      rcases Nat.lt_or_ge i ops.size with h | h <;> simp [Array.getD_eq_getD_getElem?, h] at hi
    · obtain ⟨g', hp⟩ := hp
      simp only at hn
      refine ⟨by simp only [hn]; omega, g', hw.1.trans hp.step, hp.heap, fun j hj => ?_, hp.pre, hp.size, hp.dfs, hp.rv, ?_⟩
      · simp only [hn, List.length_map, ← hlen]
        exact hp.D j hj
      · have hex := hp.ex
        simp only [ExOK] at hex ⊢
        exact EnvOK.keep Z hex _
  refine wpIn_region_draw fun t => ?_
  unfold Region.schedule
  split
  · exact wpAnyIn_sound ops.size t _ a _ (key _)
  · exact wpAnyIn_sound ops.size _ _ a _ (key _)

theorem good_cond {op : Operand} {ic : IArg} {x y : Code} {f g : St → Option (Ex × St)} (hc : cArg Z op = some ic) (hx : Good P Z w0 bc nt R x f) (hy : Good P Z w0 bc nt R y g) :
    Good P Z w0 bc nt R (.cond op x y) (fun s => (evArg s.env ic).bind fun
      | .data (.bool t) => if t then f s else g s
      | _ => none) := by
  intro c s a ex s' he hs
  simp only [Option.bind_eq_some_iff] at he
  obtain ⟨u, h1, h2⟩ := he
  have hu := RepR.arg Z hs.env hc h1
  split at h2
  · rename_i t
    simp only [RepR, RepD] at hu
    refine wpIn_cond hu ?_
    cases t with
    | true => simp only [if_true] at h2 ⊢; exact hx c s a ex s' h2 hs
    | false => simp only [Bool.false_eq_true, if_false] at h2 ⊢; exact hy c s a ex s' h2 hs
  · simp at h2

theorem good_end {code : Code} {x : Ex} {e : Exit} (h : ∀ (Q : Exit → Act → World → Prop) a w, Q e a w → code.wpIn (FR R) 0 P Q a w) (hx : ∀ (c : Conf) (s : St) (a : Act), EnvOK Z c s.env a.tmps → ExOK Z c s a x e) : Good P Z w0 bc nt R code (fun s => some (x, s)) := by
  intro c s a ex s' he hs
  simp only [Option.some.injEq, Prod.mk.injEq] at he
  obtain ⟨rfl, rfl⟩ := he
  refine h _ _ _ ⟨Nat.le_refl _, c.g, ?_, ?_, fun j hj => .inl hj, rfl, hs.size, ?_, hs.rv, hx _ _ _ ?_⟩
  · rw [← hs.H]; exact Step.refl c
  · rw [← hs.H]; exact hs.heap
  · rw [← hs.H]; exact hs.dfs
  · rw [← hs.H]; exact hs.env

/-- A ROUND OF A LOOP OVER A FUNCTION. -/
theorem yield_round {ps : Array Tmp} {ca cb : Code} {fa fb : St → Option (Ex × St)} (hps : ∀ p ∈ ps.toList, p < nt) (ha : ∀ l, Good P Z w0 bc nt (some l) ca fa) (hb : ∀ l, Good P Z w0 bc nt (some l) cb fb) {env : Nat → Option RV} {tmps : Array Value} {c2 : Conf} {rI : Id} {fn : FuncId} {df : Nat}
    (hlp : c2.g.lp rI = { state := .ready, pending := none, fn, tmps, params := ps, assign := ca, body := cb, defers := df }) (hD2 : c2.g.D rI) (hbc : Evolve bc c2) (henv : EnvOK Z c2 env tmps) (hsz : tmps.size = nt) : YieldC P Z w0 c2 (roundOf fa fb env ps.toList rI) := by
  intro r' vs h id v h' hY c' args hU' hE' hH' hheap' hfr' hR' hDr
  unfold roundOf at hY
  split at hY
  · rename_i er
    subst er
    split at hY
    · rename_i hready
      simp only [Option.bind_eq_some_iff] at hY
      obtain ⟨e, hset, ⟨x1, s1⟩, hfa, hY⟩ := hY
      split at hY
      · rename_i hx1 hr1
        simp only at hx1 hr1
        subst hx1
        simp only [Option.bind_eq_some_iff] at hY
        obtain ⟨⟨y, s2⟩, hfb, hY⟩ := hY
        split at hY
        · rename_i hr2 hd2
          simp only at hr2 hd2
          -- the record
          have hL : c'.g.lp r' = { state := .ready, pending := none, fn, tmps, params := ps, assign := ca, body := cb, defers := df } := (hE'.lp r' hD2).trans hlp
          obtain ⟨_, hblk, _⟩ := hheap'.obj r' (.lrec .ready) (by rw [hH']; exact hready)
          rw [hL] at hblk
          obtain ⟨g1, g2, g3⟩ := setMany_sound (Z := Z) hset (henv.mono Z hE') hR' (fun p hp => by rw [hsz]; exact hps p hp)
          have hyl := run_yield (P := P) (args := args) hblk (by simpa using g1)
          refine ⟨_, _, _, _, hyl, ?_⟩
          simp only
          have hfold : (ps.zip args).foldl (fun tmps (p : Tmp × Value) => tmps.setIfInBounds p.1 p.2) tmps = (ps.toList.zip args.toList).foldl (fun tmps (p : Nat × Value) => tmps.setIfInBounds p.1 p.2) tmps := by
            rw [← Array.foldl_toList, Array.toList_zip]
          refine roundIn_of_wpIn (F := Fence.wide) (n := 0) trivial ?_
          have hsr : SR Z w0 bc nt c' { env := e, heap := h, pre := id, next := 0 } { tmps := (ps.zip args).foldl (fun tmps (p : Tmp × Value) => tmps.setIfInBounds p.1 p.2) tmps, defers := [] } 0 := by
            refine ⟨hU', hbc.trans hE', hH', hheap', ?_, ?_, fun i hi m _ hp => hfr' i hi (List.IsPrefix.trans (List.prefix_append _ _) hp), rfl, rfl⟩
            · rw [hfold]; exact g2
            · rw [hfold]; simp only; rw [g3]; exact hsz
          refine wpIn_mono (ha (c'.g.blk r') c' _ _ .normal s1 hfa hsr) fun e1 a1 w1 hq => ?_
          obtain ⟨hle1, gA, hpA⟩ := hq
          obtain ⟨rfl, henv1⟩ := ExOK.normal hpA.ex
          simp only [Exit.then]
          -- the record is busy
          have hbA : gA.blk r' = c'.g.blk r' := hpA.step.ev.blk r' hDr
          have hLA : gA.lp r' = { state := .ready, pending := none, fn, tmps, params := ps, assign := ca, body := cb, defers := df } := (hpA.step.ev.lp r' hDr).trans hL
          obtain ⟨_, hblkA, _⟩ := hpA.heap.obj r' (.lrec .ready) hr1
          simp only [hbA, hLA] at hblkA
          have hbr := run_beginRound (P := P) hblkA rfl
          refine ⟨_, hbr, ?_⟩
          have hB := Step.lrec (Z := Z) (st' := .busy) hpA.heap hr1
          simp only [hbA, hLA] at hB
          have hsrA := hpA.sr hsr hle1 henv1
          have hsrB : SR Z w0 bc nt ⟨gA, _, upd s1.heap r' (.lrec .busy)⟩ { s1 with heap := upd s1.heap r' (.lrec .busy) } a1 s1.next :=
            ⟨hsrA.under.step hB.1, hsrA.ev.trans hB.1.ev, rfl, hB.2, henv1.mono Z hB.1.ev, hsrA.size, hsrA.fresh, hsrA.dfs.mono hB.1.ev, hsrA.rv⟩
          refine wpIn_mono (hb (c'.g.blk r') _ _ _ y s2 hfb hsrB) fun e2 a2 w2 hq => ?_
          obtain ⟨hle2, gC, hpC⟩ := hq
          have hDA : gA.D r' := hpA.step.ev.D r' hDr
          have hbC : gC.blk r' = c'.g.blk r' := (hpC.step.ev.blk r' hDA).trans hbA
          have hLC : gC.lp r' = { state := .ready, pending := none, fn, tmps, params := ps, assign := ca, body := cb, defers := df } := (hpC.step.ev.lp r' hDA).trans hLA
          obtain ⟨_, hblkC, _⟩ := hpC.heap.obj r' (.lrec .busy) hr2
          simp only [hbC, hLC] at hblkC
          have hpre1 : s1.pre = id := hpA.pre
          have hDall : ∀ j, gC.D j → c'.g.D j ∨ id <+: j := by
            intro j hj
            rcases hpC.D j hj with hj | ⟨m, _, _, hj⟩
            · rcases hpA.D j hj with hj | ⟨m, _, _, hj⟩
              · exact .inl hj
              · exact .inr (List.IsPrefix.trans (List.prefix_append _ _) hj)
            · simp only [hpre1] at hj
              exact .inr (List.IsPrefix.trans (List.prefix_append _ _) hj)
          -- the round's end
          have hfin : ∀ (st' : LoopSt) (b : Bool), some (RV.data (.bool b), drop id (upd s2.heap r' (.lrec st'))) = some (v, h') → ∀ W, W = w2.putObj (c'.g.blk r') (.loop { state := stOf st', pending := pendOf st', fn, tmps, params := ps, assign := ca, body := cb, defers := df }) →
              ∃ x, Ending.returned (.bool b) = .returned x ∧ ∃ g', Step c' ⟨g', W, h'⟩ ∧ HeapOK Z ⟨g', W, h'⟩ ∧ (∀ j, g'.D j → c'.g.D j ∨ id <+: j) ∧ RepR Z ⟨g', W, h'⟩ v x := by
            intro st' b hv W hW
            subst hW
            simp only [Option.some.injEq, Prod.mk.injEq] at hv
            obtain ⟨rfl, rfl⟩ := hv
            have hE2 := Step.lrec (Z := Z) (st' := st') hpC.heap hr2
            simp only [hbC, hLC] at hE2
            have hS := ((hpA.step.trans hB.1).trans hpC.step).trans hE2.1
            have hF := Step.forget hS hE2.2 (H := drop id (upd s2.heap r' (.lrec st'))) (fun i o hi => drop_some hi)
            exact ⟨_, rfl, gC, hF.1, hF.2, hDall, by simp only [RepR, RepD]⟩
          have hex := hpC.ex
          cases y with
          | normal =>
            cases e2 <;> simp only [ExOK] at hex
            have hend := run_endRound (P := P) none hblkC
            exact ⟨_, _, hend, hfin .ready true hY _ rfl⟩
          | ret =>
            cases e2 <;> simp only [ExOK] at hex
            have hend := run_endRound (P := P) (some .ret) hblkC
            exact ⟨_, _, hend, hfin (.done .ret) false hY _ rfl⟩
          | exit i =>
            cases e2 <;> simp only [ExOK] at hex
            obtain ⟨rfl, _⟩ := hex
            have hend := run_endRound (P := P) (some (.exit i)) hblkC
            exact ⟨_, _, hend, hfin (.done (.exit i)) false hY _ rfl⟩
          | goto i =>
            cases e2 <;> simp only [ExOK] at hex
            obtain ⟨rfl, _⟩ := hex
            have hend := run_endRound (P := P) (some (.goto i)) hblkC
            exact ⟨_, _, hend, hfin (.done (.goto i)) false hY _ rfl⟩
          | panic d => simp at hY
        · simp at hY
      · simp at hY
    · simp at hY
  · simp at hY

/-- THE LOOP OVER A FUNCTION. -/
theorem good_rfn (hC : SoundB P Z w0 bc C) {g : Operand} {ig : IArg} {ps : Array Tmp} {ca cb : Code} {fa fb : St → Option (Ex × St)} (hg : cArg Z g = some ig) (hps : ∀ p ∈ ps.toList, p < nt) (ha : ∀ l, Good P Z w0 bc nt (some l) ca fa) (hb : ∀ l, Good P Z w0 bc nt (some l) cb fb) :
    Good P Z w0 bc nt none (.rangeFunc g ps ca cb) (fun s => (evArg s.env ig).bind fun
      | .func f x y => (C.iter (roundOf fa fb s.env ps.toList (s.pre ++ [s.next + 1])) f (x ++ [.yld (s.pre ++ [s.next + 1])] ++ y) (upd (upd s.heap (s.pre ++ [s.next]) .dblk) (s.pre ++ [s.next + 1]) (.lrec .ready)) (s.pre ++ [s.next + 2])).bind (loopEnd s)
      | _ => none) := by
  intro c s a0 ex s' he hs
  simp only [Option.bind_eq_some_iff] at he
  obtain ⟨u, h1, h2⟩ := he
  have hu := RepR.arg Z hs.env hg h1
  split at h2
  · rename_i f x y
    simp only [Option.bind_eq_some_iff] at h2
    obtain ⟨⟨out, h'⟩, h3, h4⟩ := h2
    simp only [RepR] at hu
    obtain ⟨X, Y, hgv, hX, hY⟩ := hu
    have hfr : ∀ k, s.next ≤ k → ¬ c.g.D (s.pre ++ [k]) := fun k hk hD => hs.fresh _ hD k hk (List.prefix_refl _)
    have hne : ∀ {m k : Nat}, m ≠ k → s.pre ++ [m] ≠ s.pre ++ [k] := fun h e => h (by have := List.append_cancel_left e; simpa using this)
    refine wpIn_rangeFunc (F := FR none) (n := 0) fun fn _ => ?_
    -- the two new blocks
    have hst1 := Step.new Z hs.heap (hfr s.next (Nat.le_refl _)) (c.g.lp (s.pre ++ [s.next])) (.deferred (some [])) .dblk (by simp) (fun c' ev hbk him _ => ⟨hbk, him⟩)
    simp only at hst1
    have hst2 := Step.new Z (id := s.pre ++ [s.next + 1]) hst1.2 (by
      rintro (h | h)
      · exact hfr (s.next + 1) (by omega) h
      · exact hne (by omega) h) { state := .ready, pending := none, fn, tmps := a0.tmps, params := ps, assign := ca, body := cb, defers := c.w.heap.size } (.loop { state := .ready, pending := none, fn, tmps := a0.tmps, params := ps, assign := ca, body := cb, defers := c.w.heap.size }) (.lrec .ready) (by simp) (fun c' ev hbk him hl => ⟨by rw [hl]; exact hbk, him⟩)
    simp only [World.size_alloc] at hst2
    obtain ⟨c2, hheap2, hstep2, hw2, hH2, hlp2, hblk2, hblkd, hD2⟩ : ∃ c2 : Conf, HeapOK Z c2 ∧ Step c c2 ∧ c2.w = (c.w.alloc (.deferred (some []))).alloc (.loop { state := .ready, pending := none, fn, tmps := a0.tmps, params := ps, assign := ca, body := cb, defers := c.w.heap.size }) ∧
        c2.H = upd (upd s.heap (s.pre ++ [s.next]) .dblk) (s.pre ++ [s.next + 1]) (.lrec .ready) ∧ c2.g.lp (s.pre ++ [s.next + 1]) = { state := .ready, pending := none, fn, tmps := a0.tmps, params := ps, assign := ca, body := cb, defers := c.w.heap.size } ∧ c2.g.blk (s.pre ++ [s.next + 1]) = c.w.heap.size + 1 ∧ c2.g.blk (s.pre ++ [s.next]) = c.w.heap.size ∧
        (∀ j, c2.g.D j ↔ (c.g.D j ∨ j = s.pre ++ [s.next]) ∨ j = s.pre ++ [s.next + 1]) :=
      ⟨_, hst2.2, hst1.1.trans hst2.1, rfl, by rw [← hs.H], by simp, by simp, by simp [hne (show s.next ≠ s.next + 1 by omega)], fun j => Iff.rfl⟩
    have hDr : c2.g.D (s.pre ++ [s.next + 1]) := (hD2 _).2 (.inr rfl)
    have hDd : c2.g.D (s.pre ++ [s.next]) := (hD2 _).2 (.inl (.inr rfl))
    have hYC : YieldC P Z w0 c2 (roundOf fa fb s.env ps.toList (s.pre ++ [s.next + 1])) := yield_round hps ha hb hlp2 hDr (hs.ev.trans hstep2.ev) (hs.env.mono Z hstep2.ev) hs.size
    -- the call
    have hargs : RepRs Z c2 (x ++ [.yld (s.pre ++ [s.next + 1])] ++ y) (X ++ #[Value.func (.yield (c.w.heap.size + 1)) #[] #[]] ++ Y).toList := by
      simp only [Array.toList_append]
      refine RepRs.append Z (RepRs.append Z (RepRs.mono Z hstep2.ev _ _ hX) ?_) (RepRs.mono Z hstep2.ev _ _ hY)
      simp only [RepRs, RepR]
      exact ⟨_, _, rfl, ⟨hDr, by rw [hblk2]⟩, rfl⟩
    have hfr2 : ∀ i, c2.g.D i → ¬ (s.pre ++ [s.next + 2]) <+: i := by
      intro i hi hp
      rcases (hD2 i).1 hi with (h | rfl) | rfl
      · exact hs.fresh i h (s.next + 2) (by omega) hp
      · have := prefix_one (List.prefix_refl _) hp
        omega
      · have := prefix_one (List.prefix_refl _) hp
        omega
    obtain ⟨fd, k1, k2, k3, k4⟩ := hC.s.iter _ f _ _ _ _ h3 c2 hYC c2 (X ++ #[Value.func (.yield (c.w.heap.size + 1)) #[] #[]] ++ Y) (hs.under.step hstep2) (Evolve.refl c2) hH2 hheap2 hfr2 hargs
    refine ⟨c.w.heap.size + 1, [{ target := .collected c.w.heap.size, args := #[] }], c2.w, { target := .fn (.func (Z.fi f)) Y, args := X ++ #[Value.func (.yield (c.w.heap.size + 1)) #[] #[]] }, c2.w, Z.fi f, X ++ #[Value.func (.yield (c.w.heap.size + 1)) #[] #[]] ++ Y, c2.w, ?_, ?_, fun f' _ => FR_fn none f', ?_, by simp [FR_depth], ?_⟩
    · rw [hw2]; exact run_enterLoop_outer fn a0.tmps ps ca cb
    · have e : (#[Operand.const (Value.func (Fn.yield (c.w.heap.size + 1)) #[] #[])]).map a0.eval = #[Value.func (Fn.yield (c.w.heap.size + 1)) #[] #[]] := by simp [Act.eval]
      simp only [resolve, rangeCall, hgv, Deferred.ofValue, Sem.run_pure, e]
    · simp only [invoke]
      exact run_callFunc k1 k2 k3 c2.w
    · refine FR_calls (k4.mono fun e w' hq => ?_)
      obtain ⟨g', hS, hH', hD', hO⟩ := hq
      simp only at hS hH' hO
      cases out with
      | pan d => simp [loopEnd] at h4
      | ret v =>
        cases e <;> simp only [OutOK] at hO
        rename_i xr
        simp only [loopEnd] at h4
        -- what has come back
        have hF := Step.forget hS hH' (H := drop (s.pre ++ [s.next + 2]) h') (fun i o hi => drop_some hi)
        have hDr' : g'.D (s.pre ++ [s.next + 1]) := hS.ev.D _ hDr
        have hbr : g'.blk (s.pre ++ [s.next + 1]) = c.w.heap.size + 1 := (hS.ev.blk _ hDr).trans hblk2
        have hlr : g'.lp (s.pre ++ [s.next + 1]) = { state := .ready, pending := none, fn, tmps := a0.tmps, params := ps, assign := ca, body := cb, defers := c.w.heap.size } := (hS.ev.lp _ hDr).trans hlp2
        have hend : ∀ (st : LoopSt) (x1 : Ex), st ≠ .busy → drop (s.pre ++ [s.next + 2]) h' (s.pre ++ [s.next + 1]) = some (.lrec st) → some (x1, ({ s with heap := forgetI (s.pre ++ [s.next + 1]) (drop (s.pre ++ [s.next + 2]) h'), next := s.next + 3, dfs := .mark (s.pre ++ [s.next]) :: s.dfs } : St)) = some (ex, s') →
            ∃ w4, (Instr.endLoop (c.w.heap.size + 1)).run P w' = .ok (pendOf st) w4 ∧ ∀ e1, (∀ (c : Conf) (s : St) (a : Act), EnvOK Z c s.env a.tmps → ExOK Z c s a x1 e1) → PQ Z nt c s a0 ex s' e1 { a0 with defers := [{ target := .collected c.w.heap.size, args := #[] }] ++ a0.defers } w4 := by
          intro st x1 hbusy hrec hres
          simp only [Option.some.injEq, Prod.mk.injEq] at hres
          obtain ⟨rfl, rfl⟩ := hres
          obtain ⟨_, hblk, him⟩ := hF.2.obj _ _ hrec
          simp only [hbr, hlr] at hblk him
          have hrun := run_endLoop (P := P) hblk (by cases st <;> simp [stOf] at hbusy ⊢)
          refine ⟨_, hrun, fun e1 hx1 => ?_⟩
          have hR := Step.remove (Z := Z) hF.2 hrec (by simp) (by simp only [hbr]; exact him) (w' := w'.putObj (c.w.heap.size + 1) (.loop { state := .exhausted, pending := pendOf st, fn, tmps := a0.tmps, params := ps, assign := ca, body := cb, defers := c.w.heap.size })) (by simp) (fun b hb => by simp only [hbr] at hb; exact World.putObj_heap_other hb) rfl rfl rfl
          have hStep := (hstep2.trans hF.1).trans hR.1
          refine ⟨by simp only; omega, g', hStep, hR.2, fun j hj => ?_, rfl, hs.size, ?_, hs.rv, hx1 _ _ _ (hs.env.mono Z hStep.ev)⟩
          · rcases hD' j hj with h | h
            · rcases (hD2 j).1 h with (h | rfl) | rfl
              · exact .inl h
              · exact .inr ⟨s.next, Nat.le_refl _, by simp only; omega, List.prefix_refl _⟩
              · exact .inr ⟨s.next + 1, by omega, by simp only; omega, List.prefix_refl _⟩
            · exact .inr ⟨s.next + 2, by omega, by simp only; omega, h⟩
          · simp only [DfsR]
            refine ⟨a0.defers, ?_, hS.ev.D _ hDd, hs.dfs.mono hStep.ev⟩
            rw [(hS.ev.blk _ hDd).trans hblkd]
            rfl
        simp only [rangePost]
        split at h4
        · rename_i hrec
          obtain ⟨w4, j1, j2⟩ := hend .ready .normal (by simp) hrec h4
          exact ⟨_, w4, j1, j2 .normal (fun c s a h => h)⟩
        · simp at h4
        · rename_i x1 hnp hrec
          cases x1 with
          | normal => 
            obtain ⟨w4, j1, j2⟩ := hend (.done .normal) .normal (by simp) hrec h4
            exact ⟨_, w4, j1, wpIn_skip (j2 .normal (fun c s a h => h))⟩
          | ret =>
            obtain ⟨w4, j1, j2⟩ := hend (.done .ret) .ret (by simp) hrec h4
            exact ⟨_, w4, j1, wpIn_ret (j2 .ret (fun c s a h => h))⟩
          | exit i =>
            obtain ⟨w4, j1, j2⟩ := hend (.done (.exit i)) (.exit i) (by simp) hrec h4
            exact ⟨_, w4, j1, wpIn_exit (j2 (.exit i) (fun c s a h => ⟨rfl, h⟩))⟩
          | goto i =>
            obtain ⟨w4, j1, j2⟩ := hend (.done (.goto i)) (.goto i) (by simp) hrec h4
            exact ⟨_, w4, j1, wpIn_goto (j2 (.goto i) (fun c s a h => ⟨rfl, h⟩))⟩
          | panic d => exact absurd rfl (hnp d)
        · simp at h4
  · simp at h2

theorem dfr_fix (m : Bool) (o : IOper) : isDfr (fixO m o).op = isDfr o.op := by
  obtain ⟨d, op, g⟩ := o
  cases m <;> cases op <;> rfl
theorem dfr_pure (o : IOper) : isDfr (pureCall o).op = isDfr o.op := by
  obtain ⟨d, op, g⟩ := o
  cases op <;> simp only [pureCall] <;> first | rfl | (split <;> rfl)

theorem good_code (hC : SoundB P Z w0 bc C) (lv : Nat → List Nat) : ∀ (code : Code) (R : Option Nat) (n : Nat), (R = none ∨ noDfr (cCode P Z lv nt code) = true) → Good P Z w0 bc nt R code (evC C n (cCode P Z lv nt code))
  | .skip, R, n, _ => good_end (e := .normal) (fun Q a w h => wpIn_skip h) (fun c s a h => h)
  | .label l, R, n, _ => good_end (e := .normal) (fun Q a w h => wpIn_label h) (fun c s a h => h)
  | .exit i, R, n, _ => good_end (e := .exit i) (fun Q a w h => wpIn_exit h) (fun c s a h => ⟨rfl, h⟩)
  | .goto i, R, n, _ => good_end (e := .goto i) (fun Q a w h => wpIn_goto h) (fun c s a h => ⟨rfl, h⟩)
  | .ret, R, n, _ => good_end (e := .ret) (fun Q a w h => wpIn_ret h) (fun c s a h => h)
  | .region id ops false, R, n, hR => by
    simp only [cCode] at hR ⊢
    cases h : cOpers P Z nt ops ops.toList with
    | none => intro c s a ex s' he; simp [evC] at he
    | some is => exact good_region _ hC h (hR.imp (fun e => e) fun h0 => by
        simp only [h, noDfr, List.all_eq_true, List.mem_map] at h0
        intro o ho
        have := h0 _ ⟨o, ho, rfl⟩
        rw [dfr_fix] at this
        simpa using this)
  | .region id ops true, R, n, hR => by
    simp only [cCode] at hR ⊢
    cases h : cOpers P Z nt ops ops.toList with
    | none => intro c s a ex s' he; simp [evC] at he
    | some is =>
      simp only
      by_cases hd : drawOK ops (is.map pureCall) = true
      · rw [if_pos hd]; exact good_draw hC h hd (hR.imp (fun e => e) fun h0 => by
          simp only [h, if_pos hd, noDfr, List.all_eq_true, List.mem_map] at h0
          intro o ho
          have := h0 (pureCall o) ⟨o, ho, rfl⟩
          rw [dfr_pure] at this
          simpa using this)
      · rw [if_neg hd]; intro c s a ex s' he; simp [evC] at he
  | .seq x y, R, n, hR => good_seq (good_code hC lv x R n (hR.imp (fun e => e) fun h => by simp only [cCode, noDfr, Bool.and_eq_true] at h; exact h.1)) (good_code hC lv y R n (hR.imp (fun e => e) fun h => by simp only [cCode, noDfr, Bool.and_eq_true] at h; exact h.2))
  | .cond op x y, R, n, hR => by
    simp only [cCode] at hR ⊢
    cases h : cArg Z op with
    | none => intro c s a ex s' he; simp [evC] at he
    | some ic => exact good_cond h (good_code hC lv x R n (hR.imp (fun e => e) fun h0 => by simp only [h, noDfr, Bool.and_eq_true] at h0; exact h0.1)) (good_code hC lv y R n (hR.imp (fun e => e) fun h0 => by simp only [h, noDfr, Bool.and_eq_true] at h0; exact h0.2))
  | .block id x, R, n, hR => good_block (good_code hC lv x R n hR)
  | .loop x, R, n, hR => good_loop (good_code hC lv x R n hR) n
  | .scope (.seq (.label l) x), R, n, hR => good_gloop (good_code hC lv x R n hR) n
  | .rangeFunc g ps x y, R, n, hR => by
    simp only [cCode] at hR ⊢
    cases h : cArg Z g with
    | none => intro c s a ex s' he; simp [evC] at he
    | some ig =>
      simp only
      by_cases hd : (noDfr (cCode P Z lv nt x) && noDfr (cCode P Z lv nt y) && ps.toList.all (fun p => decide (p < nt))) = true
      · rw [if_pos hd]
        simp only [h, if_pos hd, noDfr, Bool.false_eq_true, or_false] at hR
        subst hR
        simp only [Bool.and_eq_true, List.all_eq_true, decide_eq_true_eq] at hd
        exact good_rfn hC h hd.2 (fun l c s a ex s' he => good_code hC lv x (some l) bigN (.inr hd.1.1) c s a ex s' (evC0_le _ he)) (fun l c s a ex s' he => good_code hC lv y (some l) bigN (.inr hd.1.2) c s a ex s' (evC0_le _ he))
      · rw [if_neg hd]; intro c s a ex s' he; simp [evC] at he
  | .refuse _, R, n, _ => by intro c s a ex s' he; simp [cCode, evC] at he
  | .scope .skip, R, n, _ | .scope (.label _), R, n, _ | .scope (.exit _), R, n, _ | .scope (.goto _), R, n, _ | .scope .ret, R, n, _ | .scope (.region ..), R, n, _ | .scope (.cond ..), R, n, _ | .scope (.block ..), R, n, _ | .scope (.loop _), R, n, _ | .scope (.scope _), R, n, _ | .scope (.rangeFunc ..), R, n, _ | .scope (.refuse _), R, n, _ => by intro c s a ex s' he; simp [cCode, evC] at he
  | .scope (.seq .skip _), R, n, _ | .scope (.seq (.exit _) _), R, n, _ | .scope (.seq (.goto _) _), R, n, _ | .scope (.seq .ret _), R, n, _ | .scope (.seq (.region ..) _), R, n, _ | .scope (.seq (.cond ..) _), R, n, _ | .scope (.seq (.block ..) _), R, n, _ | .scope (.seq (.loop _) _), R, n, _ | .scope (.seq (.scope _) _), R, n, _ | .scope (.seq (.rangeFunc ..) _), R, n, _ | .scope (.seq (.refuse _) _), R, n, _ | .scope (.seq (.seq ..) _), R, n, _ => by intro c s a ex s' he; simp [cCode, evC] at he

end
end Go.Proofs.YtkcbomohgbafoaaDoor
/- Part of the text. -/
set_option linter.unusedVariables false
set_option linter.unusedSimpArgs false
namespace Go.Proofs.YtkcbomohgbafoaaDoor
open Go

section
variable {P : Program} {Z : Seat} {w0 : World} {bc : Conf} {c : Conf} {s s' : St} {a : Act} {C : Calls'} {nt : Nat}

def resOf (tmps : Array Value) : ResultVar → Sem Value
  | .tmp t => pure (tmps.getD t undef)
  | .cell a t => do loadVar t (← asAddr (tmps.getD a undef))

theorem res_sound (hH : HeapOK Z c) (hc : c.H = s.heap) (he : EnvOK Z c s.env a.tmps) {r : ResultVar} {ir : IRes} (h1 : cRes P r = some ir) {v : RV} (h2 : evRes s ir = some v) : ∃ vv, (resOf a.tmps r).run P c.w = .ok vv c.w ∧ RepR Z c v vv := by
  cases r with
  | tmp t =>
    simp only [cRes, Option.some.injEq] at h1
    subst h1
    simp only [evRes] at h2
    exact ⟨_, rfl, he t v h2⟩
  | cell x t =>
    simp only [cRes, Option.map_eq_some_iff] at h1
    obtain ⟨k, hk, rfl⟩ := h1
    simp only [evRes, Option.bind_eq_some_iff] at h2
    obtain ⟨u, h3, h4⟩ := h2
    have hu := he x u h3
    split at h4
    · rename_i i off
      simp only [Option.bind_eq_some_iff] at h4
      obtain ⟨ob, h5, h6⟩ := h4
      split at h6
      · rename_i cells
        obtain ⟨_, cs, T, fr, g1, g2, g3, _⟩ := hH.obj i (.box cells) (by rw [hc]; exact h5)
        simp only [RepR] at hu
        obtain ⟨us, vv, h9, h10, h11⟩ := rdR_spec g2 (fun u hu => g3 u (List.mem_of_mem_take hu)) h6
        refine ⟨vv, ?_, h11⟩
        have hrun := run_loadVar' P hk c.w (c.g.blk i) off us (fun j u hu => cell_in g1 (by simpa using take_get (h9 j u hu))) vv h10
        simp only [resOf, hu.2, asAddr, Sem.run_bind, Sem.run_pure, Result.andThen_ok, hrun]
      · simp at h6
    · simp at h4

theorem ress_sound (hH : HeapOK Z c) (hc : c.H = s.heap) (he : EnvOK Z c s.env a.tmps) : ∀ {rs : List ResultVar} {irs : List IRes} (h1 : cRess P rs = some irs) {vs : List RV} (h2 : evRess s irs = some vs), ∃ vvs, (rs.mapM (resOf a.tmps)).run P c.w = .ok vvs c.w ∧ RepRs Z c vs vvs
  | [], irs, h1, vs, h2 => by
    simp only [cRess, Option.some.injEq] at h1
    subst h1
    simp only [evRess, Option.some.injEq] at h2
    subst h2
    exact ⟨[], rfl, by simp only [RepRs]⟩
  | r :: rs, irs, h1, vs, h2 => by
    simp only [cRess, Option.bind_eq_some_iff, Option.some.injEq] at h1
    obtain ⟨ir, h3, irs', h4, rfl⟩ := h1
    simp only [evRess, Option.bind_eq_some_iff, Option.some.injEq] at h2
    obtain ⟨v, h5, vs', h6, rfl⟩ := h2
    obtain ⟨vv, g1, g2⟩ := res_sound hH hc he h3 h5
    obtain ⟨vvs, g3, g4⟩ := ress_sound hH hc he h4 h6
    refine ⟨vv :: vvs, ?_, by simp only [RepRs]; exact ⟨vv, vvs, rfl, g2, g4⟩⟩
    simp only [List.mapM_cons, Sem.run_bind, g1, Result.andThen_ok, g3, Sem.run_pure]

theorem results_sound (hH : HeapOK Z c) (hc : c.H = s.heap) (he : EnvOK Z c s.env a.tmps) {fn : Func} {irs : List IRes} (h1 : cRess P fn.results.toList = some irs) {vs : List RV} (h2 : evRess s irs = some vs) : ∃ vv, (results fn a.tmps).run P c.w = .ok vv c.w ∧ RepR Z c (oneOf vs) vv := by
  obtain ⟨vvs, g1, g2⟩ := ress_sound (P := P) hH hc he h1 h2
  have hm : (fn.results.mapM (resOf a.tmps)).run P c.w = .ok vvs.toArray c.w := by
    rw [Array.mapM_eq_mapM_toList]
    simp only [Sem.run_map, g1, Result.andThen_ok]
  have e : results fn a.tmps = (do
      let vs ← fn.results.mapM (resOf a.tmps)
      pure (if h : vs.size = 1 then vs[0] else .tuple vs)) := by
    unfold results
    congr 1
  rw [e]
  simp only [Sem.run_bind, hm, Result.andThen_ok, Sem.run_pure]
  have hlen := RepRs.length Z g2
  refine ⟨_, rfl, ?_⟩
  match vs, vvs, g2, hlen with
  | [], [], g2, _ => simp only [oneOf, RepR]; exact ⟨#[], rfl, by simp only [RepRs]⟩
  | [v], [x], g2, _ =>
    simp only [RepRs] at g2
    obtain ⟨y, t, e1, g3, rfl⟩ := g2
    simp only [List.cons.injEq, and_true] at e1
    subst e1
    simpa [oneOf] using g3
  | v1 :: v2 :: vs, x1 :: x2 :: xs, g2, _ =>
    simp only [oneOf, RepR]
    exact ⟨(x1 :: x2 :: xs).toArray, by simp, g2⟩

theorem EnvOK.enter {c : Conf} {vs : List RV} {args : Array Value} (h : RepRs Z c vs args.toList) (k : Nat) : EnvOK Z c (enter vs) (args ++ Array.replicate k undef) := by
  intro r v hr
  simp only [YtkcbomohgbafoaaDoor.enter] at hr
  obtain ⟨x, hx, hv⟩ := RepRs.get Z h r v hr
  have hlt : r < args.size := by simpa using (List.getElem?_eq_some_iff.1 hx).1
  have e : (args ++ Array.replicate k undef).getD r undef = x := by
    have : (args ++ Array.replicate k undef)[r]? = some x := by
      rw [Array.getElem?_append_left hlt]
      simpa using hx
    simp [Array.getD_eq_getD_getElem?, this]
  rw [e]
  exact hv

/-- The deferred calls of a function. -/
theorem leaves_sound (hC : SoundC P Z w0 C) {fn : Func} {tmps : Array Value} {R : Ending → World → Prop} {pre : Id} {u' : Option PD} {h' : Id → Option AObj} : ∀ (l : List DE) (ds : List Deferred) (k : Nat) (u : Option PD) (um : FrameMode) (h : Id → Option AObj) (c : Conf), DfsR Z c l ds → unw C pre l k u h = some (u', h') → Under w0 c → c.H = h → HeapOK Z c → ModeR Z c u um → (∀ i, c.g.D i → ∀ m, k ≤ m → ¬ (pre ++ [m]) <+: i) →
    (∀ g' w', Step c ⟨g', w', h'⟩ → HeapOK Z ⟨g', w', h'⟩ → (∀ j, g'.D j → c.g.D j ∨ pre <+: j) → match u' with
      | none => ∃ v, (results fn tmps).run P w' = .ok v w' ∧ R (.returned v) w'
      | some d => ∀ x, RepD Z (view g' w') d x → R (.panicked [{ v := x, recovered := false }]) w') → LeavesInM Fence.wide 0 P fn tmps R ds um c.w
  | [], ds, k, u, um, h, c, hd, he, hU, hH, hheap, hm, hf, hfin => by
    simp only [DfsR] at hd
    subst hd
    simp only [unw, Option.some.injEq, Prod.mk.injEq] at he
    obtain ⟨rfl, rfl⟩ := he
    have := hfin c.g c.w (by rw [← hH]; exact Step.refl c) (by rw [← hH]; exact hheap) (fun j hj => .inl hj)
    cases u with
    | none =>
      simp only [ModeR] at hm
      subst hm
      exact this
    | some d =>
      simp only [ModeR] at hm
      obtain ⟨x, rfl, hx⟩ := hm
      exact this x hx
  | .mark d :: r, ds, k, u, um, h, c, hd, he, hU, hH, hheap, hm, hf, hfin => by
    simp only [DfsR] at hd
    obtain ⟨t, rfl, h1, h2⟩ := hd
    simp only [unw] at he
    have hne : um ≠ .run := by
      cases u with
      | none => simp only [ModeR] at hm; subst hm; simp
      | some d => simp only [ModeR] at hm; obtain ⟨x, rfl, _⟩ := hm; simp
    split at he
    · rename_i hdb
      obtain ⟨_, hblk, him⟩ := hheap.obj d .dblk (by rw [hH]; exact hdb)
      have hrun := run_takeDeferred (P := P) hblk
      have hR := Step.remove (Z := Z) hheap (by rw [hH]; exact hdb) (by simp) him (w' := c.w.putObj (c.g.blk d) (.deferred none)) (by simp) (fun b hb => World.putObj_heap_other hb) rfl rfl rfl
      refine ⟨hne, .inl ⟨_, _, rfl, hrun, ?_⟩⟩
      rw [hH] at hR
      refine leaves_sound hC r t k u um (forgetI d h) ⟨c.g, _, forgetI d h⟩ (h2.mono hR.1.ev) he (hU.step hR.1) rfl hR.2 ?_ hf (fun g2' w2 hS2 hH2 hD2 => hfin g2' w2 (hR.1.trans hS2) hH2 hD2)
      cases u with
      | none => exact hm
      | some d0 =>
        simp only [ModeR] at hm ⊢
        obtain ⟨x, h3, h4⟩ := hm
        exact ⟨x, h3, RepD.mono Z hR.1.ev.view _ _ h4⟩
    · simp at he
  | .call f vs :: r, ds, k, u, um, h, c, hd, he, hU, hH, hheap, hm, hf, hfin => by
    simp only [DfsR] at hd
    obtain ⟨cap, args, t, rfl, h1, h2⟩ := hd
    simp only [unw, Option.bind_eq_some_iff] at he
    obtain ⟨h1', h3, h4⟩ := he
    obtain ⟨fn', g1, g2, g3, g4⟩ := hC.dfr f vs u h (pre ++ [k]) h1' h3 c (args ++ cap) um hU hH hheap (fun i hi => hf i hi k (Nat.le_refl _)) h1 hm
    have hne : um ≠ .run := by
      cases u with
      | none => simp only [ModeR] at hm; subst hm; simp
      | some d => simp only [ModeR] at hm; obtain ⟨x, rfl, _⟩ := hm; simp
    refine ⟨hne, .inr ⟨by simp [Fence.wide], .func (Z.fi f), cap, Z.fi f, args ++ cap, rfl, ?_, fun _ _ => trivial, g4.mono fun e u1 w1 hq => ?_⟩⟩
    · simp only [invoke]
      exact run_callFunc g1 g2 g3 c.w
    · obtain ⟨⟨v, rfl⟩, hs, g', hS, hH', hD⟩ := hq
      simp only
      rw [hs]
      refine leaves_sound hC r t (k + 1) none .returning h1' ⟨g', w1, h1'⟩ (h2.mono hS.ev) h4 (hU.step hS) rfl hH' rfl (fun i hi m hmk => ?_) (fun g2' w2 hS2 hH2 hD2 => hfin g2' w2 (hS.trans hS2) hH2 fun j hj => ?_)
      · rcases hD i hi with h | h
        · exact hf i h m (by omega)
        · intro hp
          have := prefix_one h hp
          omega
      · rcases hD2 j hj with h | h
        · rcases hD j h with h | h
          · exact .inl h
          · exact .inr (List.IsPrefix.trans (List.prefix_append _ _) h)
        · exact .inr h

/-- THE BODY OF A FUNCTION DOES WHAT THE EVALUATOR SAYS. -/
theorem body_soundB (hC : SoundB P Z w0 bc C) {f : Nat} {fn : Func} {lv : Nat → List Nat} {F : IFunc} (hf : P.funcs[Z.fi f]? = some fn) (hn : (fn.name == "runtime.NumGoroutine") = false) (hF : cFunc P Z lv fn = some F) {n : Nat} {vs : List RV} {h : Id → Option AObj} {pre : Id} {r : Out × (Id → Option AObj)}
    (he : evBody C n F vs h pre = some r) (c : Conf) (args : Array Value) (hU : Under w0 c) (hE : Evolve bc c) (hH : c.H = h) (hheap : HeapOK Z c) (hfresh : ∀ i, c.g.D i → ¬ pre <+: i) (hargs : RepRs Z c vs args.toList) :
    ∃ fn, P.funcs[Z.fi f]? = some fn ∧ (fn.name == "runtime.NumGoroutine") = false ∧ fn.body.isSome = true ∧ Calls P (Z.fi f) args c.w fun e w' =>
      ∃ g', Step c ⟨g', w', r.2⟩ ∧ HeapOK Z ⟨g', w', r.2⟩ ∧ (∀ j, g'.D j → c.g.D j ∨ pre <+: j) ∧ OutOK Z ⟨g', w', r.2⟩ r.1 e := by
  unfold cFunc at hF
  simp only [Option.bind_eq_some_iff] at hF
  obtain ⟨code, hb, rs, hrs, hF⟩ := hF
  split at hF
  · rename_i hle
    simp only [Option.some.injEq] at hF
    subst hF
    unfold evBody at he
    split at he
    · rename_i hlen
      simp only [Option.bind_eq_some_iff] at he
      obtain ⟨⟨x, s'⟩, h1, h2⟩ := he
      have hal := RepRs.length Z hargs
      simp only [Array.length_toList] at hal
      simp only at hlen
      have hsr : SR Z w0 bc fn.ntmps c { env := enter vs, heap := h, pre, next := 0 } { tmps := args ++ Array.replicate (fn.ntmps - args.size) undef, defers := [] } 0 := by
        refine ⟨hU, hE, hH, hheap, EnvOK.enter hargs _, by simp; omega, fun i hi m _ hp => hfresh i hi (List.IsPrefix.trans (List.prefix_append _ _) hp), rfl, rfl⟩
      refine ⟨fn, hf, hn, by simp [hb], callsIn_wide.1 (callsIn_of_wp_marks (F := Fence.wide) (n := 0) hf hb trivial (wpIn_mono (good_code hC lv code none n (.inl rfl) c _ _ x s' h1 hsr) fun e a' w' hq => ?_))⟩
      obtain ⟨hle0, g', hp⟩ := hq
      have hex := hp.ex
      have hpre : s'.pre = pre := hp.pre
      have hD : ∀ j, g'.D j → c.g.D j ∨ pre <+: j := by
        intro j hj
        rcases hp.D j hj with h | ⟨m, _, _, h⟩
        · exact .inl h
        · exact .inr (List.IsPrefix.trans (List.prefix_append _ _) h)
      have hfr : ∀ i, g'.D i → ∀ m, s'.next ≤ m → ¬ (s'.pre ++ [m]) <+: i := by
        intro i hi m hm hpfx
        rw [hpre] at hpfx
        rcases hp.D i hi with h | ⟨m0, _, h3, h4⟩
        · exact hfresh i h (List.IsPrefix.trans (List.prefix_append _ _) hpfx)
        · have := prefix_one h4 hpfx
          omega
      have hend : ∀ (u : Option PD) (um : FrameMode), EnvOK Z ⟨g', w', s'.heap⟩ s'.env a'.tmps → ModeR Z ⟨g', w', s'.heap⟩ u um → ending C { nargs := fn.params.size + fn.nfree, results := rs, body := cCode P Z lv fn.ntmps code } u s' = some r → LeavesInM Fence.wide 0 P fn a'.tmps (fun e w' => ∃ g', Step c ⟨g', w', r.2⟩ ∧ HeapOK Z ⟨g', w', r.2⟩ ∧ (∀ j, g'.D j → c.g.D j ∨ pre <+: j) ∧ OutOK Z ⟨g', w', r.2⟩ r.1 e) a'.defers um w' := by
        intro u um henv hm h2
        simp only [ending, Option.bind_eq_some_iff] at h2
        obtain ⟨⟨u', h'⟩, h3, h4⟩ := h2
        refine leaves_sound hC.s s'.dfs a'.defers s'.next u um s'.heap ⟨g', w', s'.heap⟩ hp.dfs h3 (hU.step hp.step) rfl hp.heap hm hfr fun g2 w2 hS2 hH2 hD2 => ?_
        have hD' : ∀ j, g2.D j → c.g.D j ∨ pre <+: j := by
          intro j hj
          rcases hD2 j hj with h | h
          · exact hD j h
          · rw [hpre] at h; exact .inr h
        cases u' with
        | none =>
          simp only [Option.bind_eq_some_iff, Option.some.injEq] at h4
          obtain ⟨l, h5, rfl⟩ := h4
          obtain ⟨vv, k1, k2⟩ := results_sound (c := ⟨g2, w2, h'⟩) (s := { s' with heap := h' }) hH2 rfl (henv.mono Z hS2.ev) hrs h5
          exact ⟨vv, k1, g2, hp.step.trans hS2, hH2, hD', k2⟩
        | some d =>
          simp only [Option.some.injEq] at h4
          subst h4
          intro x hx
          exact ⟨g2, hp.step.trans hS2, hH2, hD', x, rfl, hx⟩
      cases x with
      | normal =>
        cases e <;> simp only [ExOK] at hex
        exact hend none .returning hex rfl h2
      | ret =>
        cases e <;> simp only [ExOK] at hex
        exact hend none .returning hex rfl h2
      | panic d =>
        cases e <;> simp only [ExOK] at hex
        obtain ⟨⟨x, rfl, hx⟩, henv⟩ := hex
        exact hend (some d) _ henv ⟨x, rfl, hx⟩ h2
      | exit i => simp at h2
      | goto i => simp at h2
    · simp at he
  · simp at hF

theorem body_sound (hC : SoundC P Z w0 C) (hY : ∀ r vs h id, C.yield r vs h id = none) {f : Nat} {fn : Func} {lv : Nat → List Nat} {F : IFunc} (hf : P.funcs[Z.fi f]? = some fn) (hn : (fn.name == "runtime.NumGoroutine") = false) (hF : cFunc P Z lv fn = some F) {n : Nat} {vs : List RV} {h : Id → Option AObj} {pre : Id} {r : Out × (Id → Option AObj)}
    (he : evBody C n F vs h pre = some r) : SharedOK P Z w0 f vs h pre r := by
  intro c args hU hH hheap hfresh hargs
  exact .inl (body_soundB (bc := c) ⟨hC, fun r vs h id v h' hh => by rw [hY] at hh; simp at hh⟩ hf hn hF he c args hU (Evolve.refl c) hH hheap hfresh hargs)

/-- The same calls, with a yield. -/
def Calls'.withY (C : Calls') (Y : Yld) : Calls' := { C with yield := Y }
theorem SoundC.withY (hC : SoundC P Z w0 C) (Y : Yld) : SoundC P Z w0 (C.withY Y) := ⟨hC.pure, hC.shared, hC.dfr, hC.iter⟩

/-- THE BODY OF A FUNCTION THAT IS HANDED A YIELD. -/
theorem iter_sound (hC : SoundC P Z w0 C) {f : Nat} {fn : Func} {lv : Nat → List Nat} {F : IFunc} (hf : P.funcs[Z.fi f]? = some fn) (hn : (fn.name == "runtime.NumGoroutine") = false) (hF : cFunc P Z lv fn = some F) {n : Nat} {vs : List RV} {h : Id → Option AObj} {pre : Id} {r : Out × (Id → Option AObj)} {Y : Yld}
    (he : evBody (C.withY Y) n F vs h pre = some r) : IterOK P Z w0 Y f vs h pre r := by
  intro bc hY c args hU hE hH hheap hfresh hargs
  exact body_soundB (bc := bc) ⟨hC.withY Y, hY⟩ hf hn hF he c args hU hE hH hheap hfresh hargs

theorem HeapOK.empty (g : Gh) (w : World) : HeapOK Z ⟨g, w, emptyH⟩ := ⟨fun i o h => by simp [emptyH] at h, fun i j o o' h => by simp [emptyH] at h⟩

/-- No object is known: names may be given anew. -/
theorem Step.anew {c : Conf} (g : Gh) (h : c.g.imm = g.imm) {c' : Conf} (hS : Step ⟨g, c.w, emptyH⟩ c') (hH : c.H = emptyH) (hc' : c'.H = emptyH) : Step c ⟨{ c'.g with D := c.g.D, blk := c.g.blk, lp := c.g.lp }, c'.w, emptyH⟩ := by
  have hv : c.I.le c'.I := by
    intro b o v hv
    refine hS.ev.view b o v ?_
    simp only [Conf.I, view] at hv ⊢
    rw [← h]; exact hv
  refine ⟨⟨fun _ h => h, fun _ _ => rfl, hv, fun t _ e sz n ht => by simp [emptyH] at ht, hS.ev.size, fun _ _ => rfl⟩, fun b hb _ => ?_, fun i o hi => by simp [emptyH] at hi, hS.os, hS.tape, hS.output⟩
  obtain ⟨h1, h2⟩ := hS.frame b hb (fun i o hi => by simp [emptyH] at hi)
  exact ⟨h1, by rw [h]; exact h2⟩

/-- A call of pure values. -/
theorem PureOK.of_shared {f : Nat} {ds : List PD} {out : POut} {o : Out} {h : Id → Option AObj} (hs : SharedOK P Z w0 f (ds.map .data) emptyH [] (o, h)) (ho : ∀ (c : Conf) (e : Ending), OutOK Z c o e → OutOK Z ⟨c.g, c.w, emptyH⟩ out.out e) : PureOK P Z w0 f ds out := by
  intro c args hU hH hargs
  have hr := hs ⟨{ c.g with D := fun _ => False }, c.w, emptyH⟩ args (hU.empty _) rfl (HeapOK.empty _ _) (fun i hi => hi.elim) (RepRs.of_data Z hargs)
  have hmono : ∀ e w', (∃ g', Step ⟨{ c.g with D := fun _ => False }, c.w, emptyH⟩ ⟨g', w', h⟩ ∧ HeapOK Z ⟨g', w', h⟩ ∧ (∀ j, g'.D j → False ∨ ([] : Id) <+: j) ∧ OutOK Z ⟨g', w', h⟩ o e) → ∃ g', Step c ⟨g', w', emptyH⟩ ∧ OutOK Z ⟨g', w', emptyH⟩ out.out e := by
    rintro e w' ⟨g', h1, h2, _, h3⟩
    have hf := Step.forget h1 h2 (H := emptyH) (fun i o hi => by simp [emptyH] at hi)
    have han := Step.anew (c := c) { c.g with D := fun _ => False } rfl (c' := ⟨g', w', emptyH⟩) hf.1 hH rfl
    refine ⟨_, han, ?_⟩
    have := ho ⟨g', w', h⟩ e h3
    cases out with
    | ret l =>
      cases e <;> simp only [POut.out, OutOK] at this ⊢
      exact RepR.outV (c := ⟨g', w', emptyH⟩) (c' := ⟨{ g' with D := c.g.D, blk := c.g.blk, lp := c.g.lp }, w', emptyH⟩) (fun b o v hv => hv) this
    | pan d =>
      cases e <;> simp only [POut.out, OutOK] at this ⊢
      exact this
  rcases hr with ⟨fn, g1, g2, g3, g4⟩ | ⟨v, w', g1, g2⟩
  · exact .inl ⟨fn, g1, g2, g3, g4.mono hmono⟩
  · exact .inr ⟨v, w', g1, hmono _ _ g2⟩

theorem toDs_ret {c : Conf} : ∀ {l : List RV} {ds : List PD} {x : Value}, toDs l = some ds → RepR Z c (.tup l) x → RepR Z ⟨c.g, c.w, emptyH⟩ (.tup (ds.map .data)) x := by
  intro l ds x h hx
  simp only [RepR] at hx ⊢
  obtain ⟨vs, rfl, h1⟩ := hx
  exact ⟨vs, rfl, RepRs.of_data Z (c := ⟨c.g, c.w, emptyH⟩) (RepVs.of_toDs (c := c) Z h h1)⟩

/-- THE BODY OF A FUNCTION THAT TAKES AND GIVES PURE VALUES. -/
theorem pure_sound (hC : SoundC P Z w0 C) (hY : ∀ r vs h id, C.yield r vs h id = none) {f : Nat} {fn : Func} {lv : Nat → List Nat} {F : IFunc} (hf : P.funcs[Z.fi f]? = some fn) (hn : (fn.name == "runtime.NumGoroutine") = false) (hF : cFunc P Z lv fn = some F) {n : Nat} {ds : List PD} {out : POut}
    (he : (evBody C n F (ds.map .data) emptyH []).bind (pureOut F) = some out) : PureOK P Z w0 f ds out := by
  simp only [Option.bind_eq_some_iff] at he
  obtain ⟨⟨o, h⟩, h1, h2⟩ := he
  refine PureOK.of_shared (body_sound hC hY hf hn hF h1) fun c e hO => ?_
  cases o with
  | pan d =>
    simp only [pureOut, Option.some.injEq] at h2
    subst h2
    cases e <;> simp only [OutOK] at hO
    exact hO
  | ret v =>
    cases e <;> simp only [OutOK] at hO
    rename_i x
    simp only [pureOut] at h2
    split at h2
    · simp only [Option.bind_eq_some_iff, Option.some.injEq] at h2
      obtain ⟨d, h3, rfl⟩ := h2
      simp only [POut.out, OutOK, outV, RepR]
      exact RepD.of_toD (c := c) Z h3 hO
    · rename_i hne
      split at h2
      · rename_i l
        simp only [Option.bind_eq_some_iff] at h2
        obtain ⟨ds', h3, h4⟩ := h2
        have := toDs_ret h3 hO
        split at h4
        · simp at h4
        · rename_i hne'
          simp only [Option.some.injEq] at h4
          subst h4
          simp only [POut.out, OutOK]
          have e : outV ds' = .tup (ds'.map .data) := by
            match ds', hne' with
            | [], _ => rfl
            | [d], hne' => exact absurd rfl (hne' d)
            | _ :: _ :: _, _ => rfl
          rw [e]
          exact this
      · simp at h2

end
end Go.Proofs.YtkcbomohgbafoaaDoor
/- Part of the text. -/
set_option linter.unusedVariables false
set_option linter.unusedSimpArgs false
namespace Go.Proofs.YtkcbomohgbafoaaDoor
open Go

section
variable {P : Program} {Z : Seat} {w0 : World} {bc : Conf} {c : Conf} {s s' : St} {a : Act} {C : Calls'} {nt : Nat}

/-- A region that begins with 'recover()', in a deferred call. -/
theorem wpS_rec {id : Nat} {ops : Array Oper} {Q : Exit → Act → List Frame → World → Prop} {cs cs' : List Frame} {w : World} {o : Oper} {v : Value} (h0 : ops[0]? = some o) (hg : o.guard = none) (hr : (execOp a.eval o).run P w = .ok .recover w)
    (hrec : recoverD cs = some (v, cs') ∨ (recoverD cs = none ∧ v = .nilIface ∧ cs' = cs)) (h : wpOpsIn Fence.wide 0 P ops (fun e a' w' => Q e a' cs' w') (List.range' 1 (ops.size - 1)) (a.put o.dst v) w) : (Code.region id ops false).wpS P Q a cs w := by
  intro b k hb hro
  obtain ⟨e, a', w', hq, harr⟩ := wp_opsIn _ _ _ h b k cs' hro trivial (room_wide _)
  rw [Frame.atR_of_none hro] at harr
  replace harr := (arrivesIn_iff (fun _ _ => stepsIn_wide) hro).1 harr
  have hsz : 0 < ops.size := (Array.getElem?_eq_some_iff.1 h0).1
  have hrange : List.range ops.size = 0 :: List.range' 1 (ops.size - 1) := by
    rw [List.range_eq_range', show ops.size = (ops.size - 1) + 1 by omega, List.range'_succ]
    simp
  have s1 := step_region (P := P) (b := b) (a := a) (k := k) (cs := cs) (w := w) (ops := ops) (id := id)
  rw [hrange] at s1
  refine ⟨e, a', cs', w', hq, .of_steps (.head s1 (.one (step_lone_go ?_))) harr⟩
  have hwant : Region.wanted o (yielded ops a.tmps) = true := by simp [Region.wanted, hg]
  have hstep := stepG_op (P := P) (b := b) (k := k) (cs := cs) (w := w) (rest := List.range' 1 (ops.size - 1)) h0 hwant
  have hfin : ∀ v, (b.at a (.inRegion ops (0 :: List.range' 1 (ops.size - 1)) :: k)).finish v = b.at (a.put o.dst v) (.inRegion ops (List.range' 1 (ops.size - 1)) :: k) := by
    intro v; rw [Frame.finish_at, h0]; rfl
  have hk : (b.at a (.inRegion ops (0 :: List.range' 1 (ops.size - 1)) :: k)).kind = .deferred := hb
  have htr := tryRecover_deferred hk cs
  rcases hrec with hrec | ⟨hrec, rfl, rfl⟩
  · rw [hstep, ← hfin]
    simp only [Frame.at] at htr ⊢
    simp [stepG.apply, hr, htr, hrec]
  · rw [hstep, ← hfin]
    simp only [Frame.at] at htr ⊢
    simp [stepG.apply, hr, htr, hrec]

theorem cEq_rec {ne : Bool} {t : TypeId} {x y : Operand} (h : cEq P Z ne t x y = some .recover) : False := by
  unfold cEq at h
  repeat' (first | (obtain ⟨_, _, h⟩ := h) | (split at h) | (simp only [Option.bind_eq_some_iff, Option.map_eq_some_iff, Option.some.injEq, reduceCtorEq, and_false, exists_false] at h))

theorem cOp_rec {o : Oper} (h : cOp P Z o = some .recover) : ∃ xs ts, o.op = .call { callee := .builtin .recover, args := xs, argTypes := ts } := by
  cases hop : o.op with
  | call k =>
    obtain ⟨callee, xs, ts⟩ := k
    cases callee with
    | builtin b =>
      cases b <;> first
        | exact ⟨xs, ts, rfl⟩
        | (exfalso; simp only [cOp, hop, reduceCtorEq] at h; done)
        | (exfalso; simp only [cOp, hop] at h; repeat' (first | (obtain ⟨_, _, h⟩ := h) | (split at h) | (simp only [Option.bind_eq_some_iff, Option.map_eq_some_iff, Option.some.injEq, reduceCtorEq, and_false, exists_false] at h)))
    | value f =>
      exfalso
      cases f <;> simp only [cOp, hop, Option.bind_eq_some_iff, Option.map_eq_some_iff, reduceCtorEq, and_false, exists_false] at h
    | invoke r m => exfalso; simp [cOp, hop] at h
  | binOp op t x y yt =>
    exfalso
    cases op
    case eql => exact cEq_rec (P := P) (Z := Z) (ne := false) (t := t) (x := x) (y := y) (by simpa only [cOp, hop] using h)
    case neq => exact cEq_rec (P := P) (Z := Z) (ne := true) (t := t) (x := x) (y := y) (by simpa only [cOp, hop] using h)
    all_goals (simp only [cOp, hop, Option.bind_eq_some_iff, Option.map_eq_some_iff, reduceCtorEq, and_false, exists_false] at h)
  | unOp op t x =>
    exfalso
    cases op <;> simp only [cOp, hop, Option.bind_eq_some_iff, Option.map_eq_some_iff, reduceCtorEq, and_false, exists_false] at h
  | makeFunc f a b =>
    exfalso
    cases f <;> simp only [cOp, hop, Option.bind_eq_some_iff, Option.map_eq_some_iff, reduceCtorEq, and_false, exists_false] at h
  | makeSlice t l k => exfalso; simp only [cOp, hop] at h; obtain ⟨_, _, e⟩ := cMk_some P h; cases e
  | makeMap t x =>
    exfalso
    cases x <;> simp only [cOp, hop, Option.bind_eq_some_iff, Option.map_eq_some_iff, reduceCtorEq, and_false, exists_false] at h
  | defer k =>
    exfalso
    obtain ⟨callee, xs, ts⟩ := k
    cases callee <;> simp only [cOp, hop, reduceCtorEq] at h
    repeat' (first | (obtain ⟨_, _, h⟩ := h) | (split at h) | (simp only [Option.bind_eq_some_iff, Option.map_eq_some_iff, Option.some.injEq, reduceCtorEq, and_false, exists_false] at h))
  | _ =>
    exfalso
    simp only [cOp, hop, reduceCtorEq] at h
    repeat' (first | (obtain ⟨_, _, h⟩ := h) | (split at h) | (simp only [Option.bind_eq_some_iff, Option.map_eq_some_iff, Option.some.injEq, reduceCtorEq, and_false, exists_false] at h))

theorem good_rec (hC : SoundB P Z w0 bc C) (lv : Nat → List Nat) (n : Nat) {cs cs' : List Frame} {dv : PD} {v : Value} (hrec : recoverD cs = some (v, cs') ∨ (recoverD cs = none ∧ v = .nilIface ∧ cs' = cs)) : ∀ (code : Code) (c : Conf) (s : St) (a : Act) (x : Ex) (s' : St),
    recFirst (cCode P Z lv nt code) = true → s.rv = some dv → RepD Z c.I dv v → evC C n (cCode P Z lv nt code) s = some (x, s') → SR Z w0 bc nt c { s with rv := none } a s.next →
    code.wpS P (fun e a' cs'' w' => cs'' = cs' ∧ PQ Z nt c s a x s' e a' w') a cs c.w
  | .region id ops false, c, s, a, x, s', hf, hrv, hv, he, hs => by
    simp only [cCode] at hf he
    cases hc : cOpers P Z nt ops ops.toList with
    | none => simp [hc, recFirst] at hf
    | some l =>
      simp only [hc] at hf he
      have hm : (lv id).contains MARK = false := by
        unfold recFirst at hf
        split at hf
        · rename_i e
          simp only [ICode.region.injEq] at e
          obtain ⟨_, rfl, _⟩ := e
          simpa using hf
        · rename_i e; simp at e
        · simp at hf
      have hid0 : l.map (fixO ((lv id).contains MARK)) = l := by
        rw [hm]
        exact List.map_id'' (fun x => rfl) l
      rw [hid0] at hf he
      unfold recFirst at hf
      split at hf
      · rename_i d il e
        simp only [ICode.region.injEq] at e
        obtain ⟨_, _, rfl⟩ := e
        -- the first operation
        cases hl : ops.toList with
        | nil => rw [hl] at hc; simp [cOpers] at hc
        | cons o r =>
          have hc0 := hc
          rw [hl] at hc
          simp only [cOpers, Option.bind_eq_some_iff, Option.some.injEq] at hc
          obtain ⟨io, h1, il', h2, h3⟩ := hc
          simp only [List.cons.injEq] at h3
          obtain ⟨rfl, rfl⟩ := h3
          unfold cOper at h1
          split at h1
          · rename_i hd
            simp only [Option.bind_eq_some_iff, Option.map_eq_some_iff, IOper.mk.injEq] at h1
            obtain ⟨iop, h4, g, h5, h6, rfl, rfl⟩ := h1
            have hg : o.guard = none := by
              cases hgu : o.guard with
              | none => rfl
              | some jb => obtain ⟨j, b⟩ := jb; simp only [hgu, cGuard, Option.map_eq_some_iff] at h5; obtain ⟨d', _, h⟩ := h5; simp at h
            obtain ⟨xs, ts, hop⟩ := cOp_rec h4
            have h0 : ops[0]? = some o := by rw [← Array.getElem?_toList, hl]; rfl
            have hrun : (execOp a.eval o).run P c.w = .ok .recover c.w := by
              simp only [execOp, hop, resolve, Sem.run_bind, Sem.run_pure, Result.andThen_ok, invoke, builtin]
            refine wpS_rec h0 hg hrun hrec ?_
            have hrest : ∀ Q : Exit → Act → World → Prop, wpOpsIn Fence.wide 0 P ops Q (List.range' 1 (ops.size - 1)) = wpListIn Fence.wide 0 P ops Q r := by
              intro Q
              have hlen : r.length = ops.size - 1 := by rw [← Array.length_toList, hl]; simp
              rw [← hlen]
              exact wpOpsIn_eq_wpListIn r 1 (fun j => by rw [← Array.getElem?_toList, hl, Nat.add_comm, List.getElem?_cons_succ])
            rw [hrest]
            simp only [evC, evOps, wanted, Option.bind_some, if_true, evOp, hrv, Option.bind_eq_some_iff, Option.some.injEq, Prod.mk.injEq] at he
            have hidr : il'.map (fixO false) = il' := List.map_id'' (fun x => rfl) il'
            obtain ⟨⟨x1, s1⟩, h7, rfl, rfl⟩ := he
            rw [h6] at hd ⊢
            have hlt : d < nt := by simpa using hd
            have hst : SR Z w0 bc nt c ({ env := upd s.env d (.data dv), heap := s.heap, pre := s.pre, next := s.next + (il'.length + 1), dfs := s.dfs, rv := none } : St) (a.put (some d) v) (s.next + 1) := by
              refine ⟨hs.under, hs.ev, hs.H, hs.heap, ?_, by rw [put_size]; exact hs.size, fun i hi m hm => hs.fresh i hi m (by omega), by rw [put_defers]; exact hs.dfs, rfl⟩
              exact EnvOK.set Z hs.env (by rw [hs.size]; exact hlt) (by simp only [RepR]; exact hv)
            refine ops_sound false (R := none) hC (nt := nt) (fun j d hd => cOpers_lt hc0 j d (by simpa using hd)) r il' h2 (.inl rfl) (s.next + 1) c _ _ x1 s1 (by rw [hidr]; exact h7) hst fun e a' w' hp hn => ⟨rfl, ?_⟩
            obtain ⟨g', hp⟩ := hp
            have hn' : s1.next = s.next + (il'.length + 1) := hn
            refine ⟨by simp only [hn']; omega, g', hp.step, hp.heap, fun j hj => ?_, hp.pre, hp.size, hp.dfs, hp.rv, ?_⟩
            · simp only [hn']
              rcases hp.D j hj with h | ⟨m, h8, h9, h10⟩
              · exact .inl h
              · exact .inr ⟨m, by omega, by omega, h10⟩
            · have hex := hp.ex
              cases x1 <;> cases e <;> simp only [ExOK] at hex ⊢ <;> first | exact hex.elim | exact EnvOK.keep Z hex _ | exact ⟨hex.1, EnvOK.keep Z hex.2 _⟩
          · simp at h1
      · rename_i a0 b0 e; simp at e
      · simp at hf
  | .seq p q, c, s, a, x, s', hf, hrv, hv, he, hs => by
    simp only [cCode, recFirst] at hf
    simp only [cCode, evC, seqE, Option.bind_eq_some_iff] at he
    obtain ⟨⟨x1, s1⟩, h1, h2⟩ := he
    refine wpS_seq ?_
    intro b k hb hro
    obtain ⟨e, a1, cs1, w1, ⟨rfl, hle, g1, hp⟩, harr⟩ := good_rec hC lv n hrec p c s a x1 s1 hf hrv hv h1 hs b k hb hro
    refine ⟨e, a1, cs1, w1, ?_, harr⟩
    cases x1 with
    | normal =>
      obtain ⟨rfl, henv⟩ := ExOK.normal hp.ex
      simp only at h2
      refine wpS_of_wp (wp_mono (wpIn_wide.1 (good_code hC lv q none n (.inl rfl) ⟨g1, w1, s1.heap⟩ s1 a1 x s' h2 ?_)) fun e a' w' hq' => ⟨rfl, PQ.trans hle hp hq'⟩)
      have hp' : PostG Z nt c { s with rv := none } a .normal s1 s.next s1.next .normal a1 w1 g1 := ⟨hp.step, hp.heap, hp.D, hp.pre, hp.size, hp.dfs, hp.rv, hp.ex⟩
      exact hp'.sr hs hle henv
    | _ =>
      simp only [Option.some.injEq, Prod.mk.injEq] at h2
      obtain ⟨rfl, rfl⟩ := h2
      have hex := hp.ex
      cases e <;> first | (simp only [ExOK] at hex; done) | exact ⟨rfl, hle, g1, hp⟩
  | .skip, c, s, a, x, s', hf, _, _, _, _ | .label _, c, s, a, x, s', hf, _, _, _, _ | .exit _, c, s, a, x, s', hf, _, _, _, _ | .goto _, c, s, a, x, s', hf, _, _, _, _ | .ret, c, s, a, x, s', hf, _, _, _, _
  | .block _ _, c, s, a, x, s', hf, _, _, _, _ | .loop _, c, s, a, x, s', hf, _, _, _, _ | .refuse _, c, s, a, x, s', hf, _, _, _, _ => by simp [cCode, recFirst] at hf
  | .region _ _ true, c, s, a, x, s', hf, _, _, _, _ => by simp only [cCode] at hf; split at hf <;> (try split at hf) <;> simp [recFirst] at hf
  | .rangeFunc .., c, s, a, x, s', hf, _, _, _, _ => by simp only [cCode] at hf; split at hf <;> (try split at hf) <;> simp [recFirst] at hf
  | .cond q _ _, c, s, a, x, s', hf, _, _, _, _ => by simp only [cCode] at hf; split at hf <;> simp [recFirst] at hf
  | .scope .skip, c, s, a, x, s', hf, _, _, _, _ | .scope (.label _), c, s, a, x, s', hf, _, _, _, _ | .scope (.exit _), c, s, a, x, s', hf, _, _, _, _ | .scope (.goto _), c, s, a, x, s', hf, _, _, _, _ | .scope .ret, c, s, a, x, s', hf, _, _, _, _ | .scope (.region ..), c, s, a, x, s', hf, _, _, _, _ | .scope (.cond ..), c, s, a, x, s', hf, _, _, _, _ | .scope (.block ..), c, s, a, x, s', hf, _, _, _, _ | .scope (.loop _), c, s, a, x, s', hf, _, _, _, _ | .scope (.scope _), c, s, a, x, s', hf, _, _, _, _ | .scope (.rangeFunc ..), c, s, a, x, s', hf, _, _, _, _ | .scope (.refuse _), c, s, a, x, s', hf, _, _, _, _ | .scope (.seq .skip _), c, s, a, x, s', hf, _, _, _, _ | .scope (.seq (.exit _) _), c, s, a, x, s', hf, _, _, _, _ | .scope (.seq (.goto _) _), c, s, a, x, s', hf, _, _, _, _ | .scope (.seq .ret _), c, s, a, x, s', hf, _, _, _, _ | .scope (.seq (.region ..) _), c, s, a, x, s', hf, _, _, _, _ | .scope (.seq (.cond ..) _), c, s, a, x, s', hf, _, _, _, _ | .scope (.seq (.block ..) _), c, s, a, x, s', hf, _, _, _, _ | .scope (.seq (.loop _) _), c, s, a, x, s', hf, _, _, _, _ | .scope (.seq (.scope _) _), c, s, a, x, s', hf, _, _, _, _ | .scope (.seq (.rangeFunc ..) _), c, s, a, x, s', hf, _, _, _, _ | .scope (.seq (.refuse _) _), c, s, a, x, s', hf, _, _, _, _ | .scope (.seq (.seq ..) _), c, s, a, x, s', hf, _, _, _, _ | .scope (.seq (.label _) _), c, s, a, x, s', hf, _, _, _, _ => by simp [cCode, recFirst] at hf

/-- A deferred function's contract, within the wide fence. -/
theorem callsDIn_of_wpS {f : FuncId} {fn : Func} {code : Code} {args : Array Value} {u : FrameMode} {w : World} {R : Ending → FrameMode → World → Prop} (hf : P.funcs[f]? = some fn) (hb : fn.body = some code)
    (h : ∀ (c₀ : Frame) (cs : List Frame), c₀.mode = u → code.wpS P (bodyPostS P fn c₀ cs R) { tmps := args ++ Array.replicate (fn.ntmps - args.size) undef, defers := [] } (c₀ :: cs) w) : CallsDIn Fence.wide 0 P f args u w R := by
  refine ⟨trivial, fun top low hu _ => ?_⟩
  have hent : Frame.enter P f args .deferred = ({ (default : Frame) with fn := f, kind := .deferred } : Frame).at { tmps := args ++ Array.replicate (fn.ntmps - args.size) undef, defers := [] } [.code code] := by
    simp [Frame.enter, Frame.at, hf, hb]
  obtain ⟨e, a', cs', w', hq, harr⟩ := h top low hu { (default : Frame) with fn := f, kind := .deferred } [] rfl rfl
  rw [← hent] at harr
  have hc : ∀ {m m' : Machine} {e : Ending}, Comes P m m' e → ComesIn (Machine.fenced P Fence.wide) P m m' e := fun hh => comesIn_wide.2 hh
  cases e with
  | normal =>
    obtain ⟨hd, u', rfl, v, hr, hR⟩ := hq
    exact ⟨.returned v, u', w', _, hR, hc (Steps.trans harr (.one step_end)), rfl, rfl, rfl, hd, fn, hf, hr⟩
  | ret =>
    obtain ⟨hd, u', rfl, v, hr, hR⟩ := hq
    obtain ⟨todo, hs⟩ := harr
    exact ⟨.returned v, u', w', _, hR, hc hs, rfl, rfl, rfl, hd, fn, hf, hr⟩
  | panic chain =>
    obtain ⟨hd, u', rfl, hR⟩ := hq
    obtain ⟨todo, hs⟩ := harr
    exact ⟨.panicked chain, u', w', _, hR, hc hs, rfl, rfl, rfl, hd, fn, hf⟩
  | exit id => exact hq.elim
  | goto l => exact hq.elim
  | outgrown =>
    obtain ⟨u', hR⟩ := hq
    exact ⟨.outgrown, u', w', { (default : Frame) with fn := f, kind := .deferred }, hR, hc (harr.resolve_left (by simp)), rfl, rfl, trivial⟩

/-- A DEFERRED FUNCTION THAT RECOVERS. -/
theorem dfr_sound (hC : SoundC P Z w0 C) (hY : ∀ r vs h id, C.yield r vs h id = none) {f : Nat} {fn : Func} {lv : Nat → List Nat} {F : IFunc} (hf : P.funcs[Z.fi f]? = some fn) (hn : (fn.name == "runtime.NumGoroutine") = false) (hF : cFunc P Z lv fn = some F) {n : Nat} {vs : List RV} {u : Option PD} {h : Id → Option AObj} {pre : Id} {h' : Id → Option AObj}
    (he : evDfr C n F vs u h pre = some h') : DfrOK P Z w0 f vs u h pre h' := by
  intro c args um hU hH hheap hfresh hargs hm
  unfold cFunc at hF
  simp only [Option.bind_eq_some_iff] at hF
  obtain ⟨code, hb, rs, hrs, hF⟩ := hF
  split at hF
  · rename_i hle
    simp only [Option.some.injEq] at hF
    subst hF
    unfold evDfr at he
    split at he
    · rename_i hlen
      simp only [Option.bind_eq_some_iff] at he
      obtain ⟨⟨x, s'⟩, h1, h2⟩ := he
      have hal := RepRs.length Z hargs
      simp only [Array.length_toList] at hal
      obtain ⟨hlen, hrec⟩ := hlen
      simp only at hlen
      have hsr : SR Z w0 c fn.ntmps c { env := enter vs, heap := h, pre, next := 0 } { tmps := args ++ Array.replicate (fn.ntmps - args.size) undef, defers := [] } 0 := by
        refine ⟨hU, Evolve.refl c, hH, hheap, EnvOK.enter hargs _, by simp; omega, fun i hi m _ hp => hfresh i hi (List.IsPrefix.trans (List.prefix_append _ _) hp), rfl, rfl⟩
      refine ⟨fn, hf, hn, by simp [hb], callsDIn_of_wpS hf hb fun c₀ cs hmode => ?_⟩
      obtain ⟨v, cs', hrecd, hv, hcs'⟩ : ∃ v cs', (recoverD (c₀ :: cs) = some (v, cs') ∨ (recoverD (c₀ :: cs) = none ∧ v = .nilIface ∧ cs' = c₀ :: cs)) ∧ RepD Z c.I (u.getD .nilI) v ∧ ∃ u', cs' = { c₀ with mode := u' } :: cs ∧ settle u' = .returning := by
        cases u with
        | none =>
          simp only [ModeR] at hm
          subst hm
          refine ⟨.nilIface, c₀ :: cs, .inr ⟨by simp [recoverD, hmode], rfl, rfl⟩, by simp only [Option.getD_none, RepD], .returning, ?_, rfl⟩
          rw [← hmode]
        | some d =>
          simp only [ModeR] at hm
          obtain ⟨y, rfl, hy⟩ := hm
          exact ⟨y, { c₀ with mode := .panicking [{ v := y, recovered := true }] } :: cs, .inl (by simp [recoverD, hmode]), hy, _, rfl, rfl⟩
      have hg := good_rec (bc := c) ⟨hC, fun r vs h id v h' hh => by rw [hY] at hh; simp at hh⟩ lv n hrecd code c { env := enter vs, heap := h, pre, next := 0, rv := some (u.getD .nilI) } _ x s' hrec rfl hv h1 hsr
      intro b k hbk hro
      obtain ⟨e, a', cs'', w', ⟨rfl, hle0, g', hp⟩, harr⟩ := hg b k hbk hro
      obtain ⟨u', rfl, hset⟩ := hcs'
      refine ⟨e, a', _, w', ?_, harr⟩
      have hfin : ∀ (h2 : (if s'.dfs.isEmpty ∧ s'.rv.isNone ∧ rs.isEmpty then some (drop pre s'.heap) else none) = some h'), a'.defers = [] ∧ ∃ v, (results fn a'.tmps).run P w' = .ok v w' ∧ (∃ v', Ending.returned v = .returned v') ∧ settle u' = .returning ∧ ∃ g', Step c ⟨g', w', h'⟩ ∧ HeapOK Z ⟨g', w', h'⟩ ∧ ∀ j, g'.D j → c.g.D j ∨ pre <+: j := by
        intro h2
        split at h2
        · rename_i hc
          obtain ⟨k1, k2, k3⟩ := hc
          simp only [Option.some.injEq] at h2
          subst h2
          have hd := hp.dfs
          have hd0 : s'.dfs = [] := by simpa using k1
          rw [hd0] at hd
          simp only [DfsR] at hd
          have hrs0 : rs = [] := by simpa using k3
          subst hrs0
          have hres : fn.results = #[] := by
            cases hfr : fn.results.toList with
            | nil => exact Array.toList_eq_nil_iff.1 hfr
            | cons r0 rr => rw [hfr] at hrs; simp [cRess, Option.bind_eq_some_iff] at hrs
          refine ⟨hd, .tuple #[], ?_, ⟨_, rfl⟩, hset, g', ?_⟩
          · simp [results, hres]
          · have hf2 := Step.forget hp.step hp.heap (H := drop pre s'.heap) (fun i o hi => drop_some hi)
            refine ⟨hf2.1, hf2.2, fun j hj => ?_⟩
            rcases hp.D j hj with h | ⟨m, _, _, h⟩
            · exact .inl h
            · exact .inr (List.IsPrefix.trans (List.prefix_append _ _) h)
        · simp at h2
      have hex := hp.ex
      cases x with
      | normal =>
        cases e <;> simp only [ExOK] at hex
        obtain ⟨k1, v, k2, k3⟩ := hfin h2
        exact ⟨k1, u', rfl, v, k2, k3⟩
      | ret =>
        cases e <;> simp only [ExOK] at hex
        obtain ⟨k1, v, k2, k3⟩ := hfin h2
        exact ⟨k1, u', rfl, v, k2, k3⟩
      | panic d => simp at h2
      | exit i => simp at h2
      | goto i => simp at h2
    · simp at he
  · simp at hF

end
end Go.Proofs.YtkcbomohgbafoaaDoor
/- A call that shares the heap may forget objects. -/
set_option linter.unusedVariables false
namespace Go.Proofs.YtkcbomohgbafoaaDoor
open Go
section
variable {P : Program} {Z : Seat} {w0 : World}
theorem SharedOK.forget {f : Nat} {vs : List RV} {h : Heap} {pre : Id} {o : Out} {h' H : Heap} (h1 : SharedOK P Z w0 f vs h pre (o, h')) (hH : ∀ i x, H i = some x → h' i = some x) : SharedOK P Z w0 f vs h pre (o, H) := by
  intro c args hU hc hheap hfresh hargs
  have key : ∀ e w', (∃ g', Step c ⟨g', w', h'⟩ ∧ HeapOK Z ⟨g', w', h'⟩ ∧ (∀ j, g'.D j → c.g.D j ∨ pre <+: j) ∧ OutOK Z ⟨g', w', h'⟩ o e) →
      ∃ g', Step c ⟨g', w', H⟩ ∧ HeapOK Z ⟨g', w', H⟩ ∧ (∀ j, g'.D j → c.g.D j ∨ pre <+: j) ∧ OutOK Z ⟨g', w', H⟩ o e := by
   rintro e w' ⟨g', hS, hHp, hD, hO⟩
   have hf := Step.forget hS hHp (H := H) (fun i o hi => hH i o hi)
   have ev : Evolve ⟨g', w', h'⟩ ⟨g', w', H⟩ := ⟨fun _ h => h, fun _ _ => rfl, IView.le_refl _, fun t _ e sz n ht => ⟨n, hH _ _ ht, Nat.le_refl _, fun _ => ⟨rfl, rfl⟩⟩, Nat.le_refl _, fun _ _ => rfl⟩
   refine ⟨g', hf.1, hf.2, hD, ?_⟩
   cases o with
   | ret v =>
     cases e with
     | returned x => exact RepR.mono Z ev _ _ hO
     | _ => exact hO.elim
   | pan d => 
     cases e with
     | panicked ch => exact hO
     | _ => exact hO.elim
  rcases h1 c args hU hc hheap hfresh hargs with ⟨fn, k1, k2, k3, k4⟩ | ⟨v, w', k1, k2⟩
  · exact .inl ⟨fn, k1, k2, k3, k4.mono key⟩
  · exact .inr ⟨v, w', k1, key _ _ k2⟩
end
end Go.Proofs.YtkcbomohgbafoaaDoor
