/- Regions that draw their order: any of the operations may be reads, which come whenever they may; the others come in any order that their edges allow. -/
import Derived.Test.YtlocafmglficnaaGreatDoorDraws
namespace Go.Proofs.YtlocafmglficnaaGreatDoor
open Go.RowKit

section
variable {F : Fence} {n : Nat} {P : Program} {C : World → Prop}

/-- A read without a guard. -/
def pureRead (o : Oper) : Bool := o.guard.isNone && match o.op with
  | .move _ => true | .assign _ => true | .pick _ _ _ => true | .load _ _ => true | .binOp _ _ _ _ _ => true | .unOp _ _ _ => true | .indexAddr _ _ _ => true | .fieldAddr _ _ _ => true | .field _ _ _ => true
  | .index _ _ _ => true | .extract _ _ => true | .slice _ _ _ _ _ => true | .build _ _ => true | .nilCheck _ => true | _ => false
theorem pureRead_noDefer {o : Oper} (h : pureRead o = true) : noDefer o = true := by
  simp only [pureRead, Bool.and_eq_true] at h
  obtain ⟨_, h⟩ := h
  unfold noDefer
  split <;> simp_all
theorem pureRead_want {o : Oper} (h : pureRead o = true) (y : Nat → Option Bool) : Region.wanted o y = true := by
  simp only [pureRead, Bool.and_eq_true, Option.isNone_iff_eq_none] at h
  simp [Region.wanted, h.1]
theorem pureRead_sel {o : Oper} (h : pureRead o = true) : ∀ cs b, o.op ≠ .select cs b := fun cs b e => by simp [pureRead, e] at h
theorem panic_run {w w' : World} {x : Next} (h : (runtimePanic .nilDeref : Sem Next).run P w = .ok x w') : False := by
  unfold runtimePanic at h
  simp [goPanic, go_sem] at h
theorem bind_value {α : Type} {s : Sem α} {f : α → Sem Next} {w w' : World} {x : Next} (hf : ∀ a w1, (f a).run P w1 = .ok x w' → ∃ u, x = .value u) (h : (s >>= f).run P w = .ok x w') : ∃ u, x = .value u := by
  simp only [Sem.run_bind] at h
  cases hs : s.run P w with
  | ok a w1 => rw [hs] at h; exact hf a w1 h
  | halt e w1 => rw [hs] at h; simp [Result.andThen] at h
theorem pure_value {v : Value} {w w' : World} {x : Next} (h : (Pure.pure (Next.value v) : Sem Next).run P w = .ok x w') : ∃ u, x = .value u := by
  simp [Sem.run_pure] at h; exact ⟨_, h.1.symm⟩
theorem pureRead_value {o : Oper} (h : pureRead o = true) {ρ : Operand → Value} {w w' : World} {x : Next} (hr : (execOp ρ o).run P w = .ok x w') : ∃ u, x = .value u := by
  simp only [pureRead, Bool.and_eq_true] at h
  obtain ⟨_, h⟩ := h
  unfold execOp at hr
  split at h
  · rename_i e; rw [e] at hr; simp [Sem.run_pure] at hr; exact ⟨_, hr.1.symm⟩
  · rename_i e; rw [e] at hr; simp [Sem.run_pure] at hr; exact ⟨_, hr.1.symm⟩
  · rename_i e; rw [e] at hr
    simp only [Sem.run_bind] at hr
    revert hr
    cases (asBool _).run P w with
    | ok u w1 => intro hr; simp [Result.andThen, Sem.run_pure] at hr; exact ⟨_, hr.1.symm⟩
    | halt e w1 => intro hr; simp [Result.andThen] at hr
  · rename_i e; rw [e] at hr; exact value_of_bind hr
  · rename_i e; rw [e] at hr; exact value_of_bind hr
  · rename_i e; rw [e] at hr; exact value_of_bind hr
  · rename_i e; rw [e] at hr; exact value_of_bind hr
  · rename_i e; rw [e] at hr; exact value_of_bind hr
  · rename_i e; rw [e] at hr; exact value_of_bind hr
  · rename_i e; rw [e] at hr; exact value_of_bind hr
  · rename_i e; rw [e] at hr; exact value_of_bind hr
  · rename_i e; rw [e] at hr; exact value_of_bind hr
  · rename_i e; rw [e] at hr; exact value_of_bind hr
  · rename_i e
    rw [e] at hr
    dsimp only at hr
    split at hr
    · exact (panic_run hr).elim
    · exact (panic_run hr).elim
    · exact (panic_run hr).elim
    · split at hr
      · exact (panic_run hr).elim
      · refine bind_value (fun a w1 h1 => ?_) hr
        refine bind_value (fun b w2 h2 => ?_) h1
        first
          | exact pure_value h2
          | (split at h2
             · first | exact pure_value h2 | exact bind_value (fun _ _ h3 => pure_value h3) h2
             · first | exact pure_value h2 | exact bind_value (fun _ _ h3 => pure_value h3) h2)
      · simp [Sem.run_pure] at hr; exact ⟨_, hr.1.symm⟩
    · simp [Sem.run_pure] at hr; exact ⟨_, hr.1.symm⟩
  · cases h

/-- A read, quiet in a class, runs from whatever world of the class, and leaves that very world. -/
theorem pure_runs {o : Oper} {a : Act} {K' : Act → World → Prop} {Q : Exit → Act → World → Prop} {w : World} {v : Value} (hp : pureRead o = true) (hrun : o.quietAtIn F n P a C w v) (hK : K' (a.put o.dst v) w)
    (ha : ∀ f, o.about P w a.eval = some f → F.fn f) : o.wpIn F n P a w K' Q := by
  rw [Oper.quietAtIn] at hrun
  rw [Oper.wpIn, Oper.semAt_eq _ _ _ (noDefer_spec (pureRead_noDefer hp))]
  refine ⟨ha, ?_⟩
  have hval := fun x w' => pureRead_value (P := P) (ρ := a.eval) (w := w) (w' := w') (x := x) hp
  revert hrun hval
  cases (execOp a.eval o).run P w with
  | halt x w' => exact fun h _ => h.elim
  | ok x w' =>
    intro hrun hval
    obtain ⟨u, rfl⟩ := hval x w' rfl
    obtain ⟨rfl, rfl⟩ := hrun
    exact hK

/-- The operands' slots of an operation hold no 'd'. -/
def farOf (o : Oper) (d : Option Tmp) : Bool := match d with
  | none => true
  | some d => !(o.op.operands.toList.filterMap fun | .tmp t => some t | _ => none).contains d
theorem farOf_spec {o : Oper} {d : Option Tmp} (h : farOf o d = true) : ∀ e, d = some e → (o.op.operands.toList.filterMap fun | .tmp t => some t | _ => none).contains e = false := by
  rintro e rfl
  simpa [farOf] using h
def waitsOn (o : Oper) (i : Nat) : Bool := o.after.any fun e => Region.binds .any e && e.on == i
theorem waitsOn_spec {o : Oper} {i : Nat} (h : waitsOn o i = true) : ∃ e ∈ o.after, Region.binds .any e = true ∧ e.on = i := by
  obtain ⟨e, he, h2⟩ := Array.any_eq_true'.1 h
  simp only [Bool.and_eq_true, beq_iff_eq] at h2
  exact ⟨e, he, h2⟩

/-- hs: the indices of the reads, ascending. -/
def openOk (ops : List Oper) (hs : List Nat) : Bool :=
  (List.range ops.length).all fun j => match ops[j]? with
    | none => true
    | some o => o.guard.isNone && ownEdges j o &&
      -- it waits for each read whose slot it reads
      hs.all (fun i => match ops[i]? with | none => true | some h => waitsOn o i || farOf o h.dst) &&
      (if hs.contains j then
        pureRead o && hs.all (fun i => match ops[i]? with | none => true | some h => i == j || h.dst.isNone || h.dst != o.dst)
       else
        noDefer o && noSel o && hs.all (fun i => match ops[i]? with | none => true | some h => farOf h o.dst && (h.dst.isNone || h.dst != o.dst)))

structure AnyOk (ops : List Oper) (hs : List Nat) (j : Nat) (o : Oper) : Prop where
  guard : o.guard = none
  edges : ownEdges j o = true
  far : ∀ i h, i ∈ hs → ops[i]? = some h → waitsOn o i = true ∨ farOf o h.dst = true
theorem open_any {ops : List Oper} {hs : List Nat} (hok : openOk ops hs = true) {j : Nat} {o : Oper} (hj : ops[j]? = some o) : AnyOk ops hs j o ∧
    (j ∈ hs → pureRead o = true ∧ ∀ i h, i ∈ hs → ops[i]? = some h → i ≠ j → h.dst = none ∨ h.dst ≠ o.dst) ∧
    (j ∉ hs → noDefer o = true ∧ noSel o = true ∧ ∀ i h, i ∈ hs → ops[i]? = some h → farOf h o.dst = true ∧ (h.dst = none ∨ h.dst ≠ o.dst)) := by
  have hlt : j < ops.length := (List.getElem?_eq_some_iff.1 hj).1
  have h2 := List.all_eq_true.1 hok j (List.mem_range.2 hlt)
  rw [hj] at h2
  simp only [Bool.and_eq_true, Option.isNone_iff_eq_none] at h2
  obtain ⟨⟨⟨h3, h4⟩, h5⟩, h6⟩ := h2
  refine ⟨⟨h3, h4, fun i h hi ho => ?_⟩, fun hm => ?_, fun hm => ?_⟩
  · have := List.all_eq_true.1 h5 i hi
    rw [ho] at this
    simpa using this
  · rw [if_pos (by simpa using hm)] at h6
    simp only [Bool.and_eq_true] at h6
    refine ⟨h6.1, fun i h hi ho hne => ?_⟩
    have := List.all_eq_true.1 h6.2 i hi
    rw [ho] at this
    simp only [Bool.or_eq_true, beq_iff_eq, Option.isNone_iff_eq_none, bne_iff_ne] at this
    rcases this with (h | h) | h
    · exact absurd h hne
    · exact .inl h
    · exact .inr h
  · rw [if_neg (by simpa using hm)] at h6
    simp only [Bool.and_eq_true] at h6
    refine ⟨h6.1.1, h6.1.2, fun i h hi ho => ?_⟩
    have := List.all_eq_true.1 h6.2 i hi
    rw [ho] at this
    simpa using this

/-- The operations hs, where they lie. -/
def pickOps (ops : List Oper) (hs : List Nat) : List Oper := hs.filterMap fun i => ops[i]?
theorem pick_nil (ops : List Oper) : pickOps ops [] = [] := rfl
theorem pick_cons (ops : List Oper) (i : Nat) (hs : List Nat) : pickOps ops (i :: hs) = (ops[i]?).elim (pickOps ops hs) (fun o => o :: pickOps ops hs) := by
  unfold pickOps
  rw [List.filterMap_cons]
  cases ops[i]? <;> rfl

/-- 'a' is 'b', but for the slots of the reads that have not come. -/
structure Lack (ops : List Oper) (S : Nat → Prop) (a b : Act) : Prop where
  defers : a.defers = b.defers
  size : a.tmps.size = b.tmps.size
  same : ∀ s : Nat, (∀ i o, S i → ops[i]? = some o → o.dst ≠ some s) → a.tmps[s]? = b.tmps[s]?
section
variable {ops : List Oper} {hs : List Nat}
theorem Lack.full {S : Nat → Prop} {a b : Act} (h : Lack ops S a b) (hS : ∀ i, i < ops.length → ¬ S i) : a = b := by
  have ht : a.tmps = b.tmps := Array.ext_getElem? fun s => h.same s fun i o hi ho _ => hS i (List.getElem?_eq_some_iff.1 ho).1 hi
  obtain ⟨t, d⟩ := a
  obtain ⟨t', d'⟩ := b
  cases ht
  cases h.defers
  rfl
theorem Lack.eval {S : Nat → Prop} {a b : Act} {o : Oper} (h : Lack ops S a b) (ho : ∀ i h', S i → ops[i]? = some h' → ∀ d, h'.dst = some d → (o.op.operands.toList.filterMap fun | .tmp t => some t | _ => none).contains d = false) :
    ∀ x ∈ o.op.operands, a.eval x = b.eval x := by
  intro x hx
  cases x with
  | tmp t =>
    have := h.same t fun i h' hi hh hd => by
      have := ho i h' hi hh t hd
      rw [List.contains_eq_mem] at this
      simp only [decide_eq_false_iff_not] at this
      exact this (List.mem_filterMap.2 ⟨.tmp t, by simpa using hx, rfl⟩)
    simp only [Act.eval, Array.getD_eq_getD_getElem?, this]
  | const v => rfl
  | global g => rfl
  | func f => rfl
theorem Lack.head {S S' : Nat → Prop} {a b : Act} {i : Nat} {o : Oper} {v : Value} (h : Lack ops S a b) (hi : ops[i]? = some o) (hb : b.put o.dst v = b) (hS : ∀ j, S j → j = i ∨ S' j) : Lack ops S' (a.put o.dst v) b := by
  refine ⟨(put_defers _ _ _).trans h.defers, (put_size _ _ _).trans h.size, fun s hs => ?_⟩
  cases hd : o.dst with
  | none =>
    refine h.same s fun j o' hj ho' e => ?_
    rcases hS j hj with rfl | hj'
    · rw [hi] at ho'; cases ho'; rw [hd] at e; cases e
    · exact hs j o' hj' ho' e
  | some d =>
    rw [put_get]
    rw [hd] at hb
    by_cases hds : d = s
    · subst hds
      by_cases hlt : d < a.tmps.size
      · have : (b.put (some d) v).tmps[d]? = some v := by rw [put_get, if_pos ⟨rfl, by rw [← h.size]; exact hlt⟩]
        rw [if_pos ⟨rfl, hlt⟩, ← this, hb]
      · rw [if_neg (fun h => hlt h.2), Array.getElem?_eq_none (Nat.le_of_not_lt hlt), Array.getElem?_eq_none (by rw [← h.size]; exact Nat.le_of_not_lt hlt)]
    · rw [if_neg (fun h => hds h.1)]
      refine h.same s fun j o' hj ho' e => ?_
      rcases hS j hj with rfl | hj'
      · rw [hi] at ho'; cases ho'; rw [hd] at e; cases e; exact hds rfl
      · exact hs j o' hj' ho' e
theorem Lack.tail {S : Nat → Prop} {a b : Act} (h : Lack ops S a b) (d : Option Tmp) (v : Value) : Lack ops S (a.put d v) (b.put d v) := by
  refine ⟨by rw [put_defers, put_defers]; exact h.defers, by rw [put_size, put_size]; exact h.size, fun s hs => ?_⟩
  cases d with
  | none => exact h.same s hs
  | some d => rw [put_get, put_get, h.size, h.same s hs]
theorem Lack.mono {S S' : Nat → Prop} {a b : Act} (h : Lack ops S a b) (hS : ∀ i, i < ops.length → S i → S' i) : Lack ops S' a b :=
  ⟨h.defers, h.size, fun s hs => h.same s fun i o hi ho => hs i o (hS i (List.getElem?_eq_some_iff.1 ho).1 hi) ho⟩

/-- What the reads read, at the frame that holds all that they read. -/
def ReadsAt (F : Fence) (n : Nat) (P : Program) (C : World → Prop) (ops : List Oper) (hs : List Nat) (b : Act) : Prop :=
  ∀ (i : Nat) (o : Oper), i ∈ hs → ops[i]? = some o → o.askedIn F P b C ∧ ∃ v, b.put o.dst v = b ∧ ∀ w, C w → o.quietAtIn F n P b C w v
theorem ReadsAt.tail (hok : openOk ops hs = true) {b : Act} (h : ReadsAt F n P C ops hs b) {j : Nat} {o : Oper} (hj : ops[j]? = some o) (hm : j ∉ hs) (v : Value) : ReadsAt F n P C ops hs (b.put o.dst v) := by
  intro i o' hi ho
  obtain ⟨h1, u, h2, h3⟩ := h i o' hi ho
  obtain ⟨_, _, ht⟩ := open_any hok hj
  obtain ⟨_, _, hfar⟩ := ht hm
  obtain ⟨f1, f2⟩ := hfar i o' hi ho
  have hp := ((open_any hok ho).2.1 hi).1
  have hev : ∀ x ∈ o'.op.operands, (b.put o.dst v).eval x = b.eval x := operands_far (farOf_spec f1)
  obtain ⟨e1, e2⟩ := quietAt_of (P := P) (pureRead_sel hp) hev
  refine ⟨fun w hw f hf => h1 w hw f (by rw [← e2]; exact hf), u, ?_, fun w hw => ?_⟩
  · rcases f2 with h | h
    · rw [h]; rfl
    · have hc := Act.put_comm b (x := o'.dst) (y := o.dst) u v (fun d h1 h2 => h (h1.trans h2.symm))
      rw [← hc, h2]
  · have := h3 w hw
    unfold Oper.quietAtIn at this ⊢
    rw [e1]
    exact this
theorem ReadsAt.defers {b : Act} (h : ReadsAt F n P C ops hs b) (ds : List Deferred) : ReadsAt F n P C ops hs { b with defers := ds } := by
  intro i o hi ho
  obtain ⟨h1, u, h2, h3⟩ := h i o hi ho
  refine ⟨h1, u, ?_, h3⟩
  cases hd : o.dst with
  | none => rfl
  | some d =>
    rw [hd] at h2
    have := congrArg Act.tmps h2
    simp only [Act.put] at this ⊢
    rw [this]

/-- The others, in any order that their edges allow; LT: what has come (the reads all have). -/
def wpRest (F : Fence) (n : Nat) (P : Program) (ops : List Oper) (C : World → Prop) (waits : Nat → Bool) (Q' : Act → World → Prop) : Nat → Array Bool → Act → World → Prop
  | 0, LT, a, w => Region.ready .any ops.toArray LT = [] ∧ Q' a w
  | f + 1, LT, a, w => (Region.ready .any ops.toArray LT = [] → Q' a w) ∧
    ∀ i ∈ Region.ready .any ops.toArray LT, ∀ o, ops[i]? = some o → wpListIn F n P ops.toArray (fun e a' w' => e = .normal ∧ (waits i = false → C w') ∧ wpRest F n P ops C waits Q' f (LT.setIfInBounds i true) a' w') [o] a w

theorem reads_frame (hok : openOk ops hs = true) (Q' : Act → Prop) : ∀ (l : List Nat) (a : Act), l.Pairwise (· < ·) → (∀ i ∈ l, i ∈ hs ∧ i < ops.length) → wpQuietIn F n P ops.toArray C Q' (pickOps ops l) a →
    ∃ b, Q' b ∧ Lack ops (fun i => i ∈ l) a b ∧ (∀ i o, i ∈ l → ops[i]? = some o → o.askedIn F P b C ∧ ∃ v, b.put o.dst v = b ∧ ∀ w, C w → o.quietAtIn F n P b C w v) ∧
      (∀ s : Nat, (∀ i o, i ∈ l → ops[i]? = some o → o.dst ≠ some s) → b.tmps[s]? = a.tmps[s]?) := by
  intro l
  induction l with
  | nil => intro a _ _ h; exact ⟨a, h, ⟨rfl, rfl, fun _ _ => rfl⟩, fun i o hi => (by cases hi), fun _ _ => rfl⟩
  | cons k l ih =>
    intro a hp hin h
    rw [List.pairwise_cons] at hp
    obtain ⟨hkm, hklt⟩ := hin k (by simp)
    have ho : ops[k]? = some ops[k] := by simp [hklt]
    obtain ⟨hA, hH, _⟩ := open_any hok ho
    obtain ⟨hpr, hdst⟩ := hH hkm
    have hpk : pickOps ops (k :: l) = ops[k] :: pickOps ops l := by simp [pickOps, hklt]
    rw [hpk] at h
    obtain ⟨hask, h⟩ := h
    rw [if_pos (pureRead_want hpr _)] at h
    obtain ⟨v, hv, h⟩ := h
    obtain ⟨b, q1, q2, q3, q4⟩ := ih (a.put ops[k].dst v) hp.2 (fun i hi => hin i (by simp [hi])) h
    have hfar : ∀ i h', (i = k ∨ i ∈ l) → ops[i]? = some h' → ∀ d, h'.dst = some d → (ops[k].op.operands.toList.filterMap fun | .tmp t => some t | _ => none).contains d = false := by
      intro i h' hi hh
      have hik : k ≤ i := by rcases hi with rfl | hi; exact Nat.le_refl _; exact Nat.le_of_lt (hp.1 i hi)
      have him : i ∈ hs := by rcases hi with rfl | hi; exact hkm; exact (hin i (by simp [hi])).1
      rcases hA.far i h' him hh with hw | hf
      · obtain ⟨e, he, hb, hon⟩ := waitsOn_spec hw
        have := ownEdges_spec hA.edges e he hb
        omega
      · exact farOf_spec hf
    have hbd : b.put ops[k].dst v = b := by
      cases hd : ops[k].dst with
      | none => rfl
      | some d =>
        have hb := q4 d fun i o' hi ho' e => by
          have hlt := hp.1 i hi
          rcases hdst i o' (hin i (by simp [hi])).1 ho' (by omega) with h | h
          · rw [h] at e; cases e
          · rw [hd] at h; exact h e
        rw [hd, put_get] at hb
        have hsz : b.tmps.size = a.tmps.size := q2.size.symm.trans (put_size _ _ _)
        have : (b.put (some d) v).tmps = b.tmps := by
          refine Array.ext_getElem? fun s => ?_
          rw [put_get]
          by_cases hds : d = s ∧ d < b.tmps.size
          · rw [if_pos hds, ← hds.1, hb, if_pos ⟨rfl, by rw [← hsz]; exact hds.2⟩]
          · rw [if_neg hds]
        obtain ⟨bt, bd⟩ := b
        simp only [Act.put] at this ⊢
        rw [this]
    have hev : ∀ x ∈ ops[k].op.operands, a.eval x = b.eval x := by
      intro x hx
      refine (operands_far (a := a) (v := v) (fun e he => hfar k _ (.inl rfl) ho e he) x hx).symm.trans ?_
      exact q2.eval (fun i h' hi hh d hd => hfar i h' (.inr hi) hh d hd) x hx
    obtain ⟨e1, e2⟩ := quietAt_of (P := P) (pureRead_sel hpr) hev
    refine ⟨b, q1, ⟨(put_defers _ _ _).symm.trans q2.defers, (put_size _ _ _).symm.trans q2.size, fun s hs => ?_⟩, fun i o' hi ho' => ?_, fun s hs => ?_⟩
    · rw [q4 s fun i o' hi => hs i o' (by simp [hi])]
      cases hd : ops[k].dst with
      | none => rfl
      | some d => rw [put_get, if_neg (fun h => hs k _ (by simp) ho (by rw [hd, h.1]))]
    · rcases List.mem_cons.1 hi with rfl | hi
      · rw [ho] at ho'
        cases ho'
        refine ⟨fun w hw f hf => hask w hw f (by rw [e2]; exact hf), v, hbd, fun w hw => ?_⟩
        have := hv w hw
        unfold Oper.quietAtIn at this ⊢
        rw [← e1]
        exact this
      · exact q3 i o' hi ho'
    · rw [q4 s fun i o' hi => hs i o' (by simp [hi])]
      cases hd : ops[k].dst with
      | none => rfl
      | some d => rw [put_get, if_neg (fun h => hs k _ (by simp) ho (by rw [hd, h.1]))]

theorem Lack.defer {S : Nat → Prop} {a b : Act} (h : Lack ops S a b) (d : Deferred) : Lack ops S { a with defers := d :: a.defers } { b with defers := d :: b.defers } :=
  ⟨by simp only [h.defers], h.size, h.same⟩
theorem listed_of {k : Nat} {L : Array Bool} (hs : k ≤ L.size) {i : Nat} (hi : i < k) (h : L.getD i true = true ∨ L.getD i false = true) : L[i]? = some true := by
  rw [Array.getElem?_eq_getElem (by omega)]
  simp only [Array.getD_eq_getD_getElem?] at h
  rw [Array.getElem?_eq_getElem (by omega)] at h
  simpa using h
theorem getD_of {L : Array Bool} {i : Nat} {b d : Bool} (h : L[i]? = some b) : L.getD i d = b := by simp [Array.getD_eq_getD_getElem?, h]

theorem open_run (hok : openOk ops hs = true) (waits : Nat → Bool) (hw : ∀ j o, ops[j]? = some o → waits j = true → ∀ i ∈ hs, waitsOn o i = true) (Q : Exit → Act → World → Prop) : ∀ (g : Nat) (L LT : Array Bool) (a b : Act) (w : World),
    L.size = ops.length → LT.size = ops.length → (∀ i, i < ops.length → i ∉ hs → L[i]? = LT[i]?) → (∀ i ∈ hs, i < ops.length → LT[i]? = some true) → unlisted ops.length L = g →
    ((∀ i ∈ hs, i < ops.length → L[i]? = some true) ∨ (C w ∧ ReadsAt F n P C ops hs b)) → Lack ops (fun i => i ∈ hs ∧ L.getD i true = false) a b →
    wpRest F n P ops C waits (fun a w => Q .normal a w) (unlisted ops.length LT) LT b w → wpAnyIn F n P .any ops.toArray Q g L a w := by
  have rdy : ∀ (L : Array Bool), L.size = ops.length → unlisted ops.length L ≠ 0 → ∃ i, i ∈ Region.ready .any ops.toArray L := by
    intro L hsz hu
    have hne : ∃ i, i < ops.length ∧ L.getD i true = false := by
      have hpos : 0 < ((List.range ops.length).filter fun i => !L.getD i true).length := by unfold unlisted at hu; omega
      obtain ⟨i, hi⟩ := List.exists_mem_of_length_pos hpos
      obtain ⟨g1, g2⟩ := List.mem_filter.1 hi
      exact ⟨i, List.mem_range.1 g1, by simpa using g2⟩
    obtain ⟨i0, ⟨hi0, hu0⟩, hmin⟩ := exists_least (p := fun i => i < ops.length ∧ L.getD i true = false) hne
    have ho : ops[i0]? = some ops[i0] := by simp [hi0]
    refine ⟨i0, mem_ready.2 ⟨hu0, ops[i0], by simp [hi0], fun e he hb => ?_⟩⟩
    have hlt := ownEdges_spec (open_any hok ho).1.edges e he hb
    have hnot : ¬ L.getD e.on true = false := fun hh => by have := hmin e.on ⟨by omega, hh⟩; omega
    exact getD_of (listed_of (k := ops.length) (by omega) (by omega) (.inl (by simpa using hnot)))
  have done : ∀ (L : Array Bool), L.size = ops.length → unlisted ops.length L = 0 → Region.ready .any ops.toArray L = [] := by
    intro L hsz hu
    rw [List.eq_nil_iff_forall_not_mem]
    intro j hj
    obtain ⟨hj1, o, ho, _⟩ := mem_ready.1 hj
    have hlt : j < ops.length := by have := (Array.getElem?_eq_some_iff.1 ho).1; simpa using this
    have := listed_of (k := ops.length) (by omega) hlt (.inr (unlisted_zero hu (by omega) j hlt))
    rw [getD_of this] at hj1; cases hj1
  intro g
  induction g with
  | zero =>
    intro L LT a b w hs1 hs2 hsy hT hg hC hl h
    have hall : ∀ i, i < ops.length → L[i]? = some true := fun i hi => listed_of (k := ops.length) (by omega) hi (.inr (unlisted_zero hg (by omega) i hi))
    have hut : unlisted ops.length LT = 0 := by
      unfold unlisted
      rw [List.length_eq_zero_iff, List.filter_eq_nil_iff]
      intro i hi
      have hlt := List.mem_range.1 hi
      have : LT[i]? = some true := by
        by_cases hm : i ∈ hs
        · exact hT i hm hlt
        · rw [← hsy i hlt hm]; exact hall i hlt
      simp [Array.getD_eq_getD_getElem?, this]
    rw [hut] at h
    refine ⟨done L hs1 hg, ?_⟩
    rw [hl.full fun i hi hn => by have := hall i hi; rw [getD_of this] at hn; exact absurd hn.2 (by simp)]
    exact h.2
  | succ g ih =>
    intro L LT a b w hs1 hs2 hsy hT hg hC hl h
    obtain ⟨r0, hr0⟩ := rdy L hs1 (by omega)
    refine ⟨fun e => (by rw [e] at hr0; cases hr0), fun j hj => ?_⟩
    obtain ⟨hj1, o, ho, hall⟩ := mem_ready.1 hj
    have hjl : j < ops.length := by have := (Array.getElem?_eq_some_iff.1 ho).1; simpa using this
    have hoj : ops[j]? = some o := by rw [← ho]; simp
    obtain ⟨hA, hH, hTl⟩ := open_any hok hoj
    have hwant : ∀ z, Region.wanted o z = true := fun z => by simp [Region.wanted, hA.guard]
    have hev := hl.eval (o := o) fun i h' hi hh d hd => by
      rcases hA.far i h' hi.1 hh with hwt | hf
      · obtain ⟨e, he, hb, hon⟩ := waitsOn_spec hwt
        have h1 := hall e he hb
        rw [hon] at h1
        have hil := (List.getElem?_eq_some_iff.1 hh).1
        have := listed_of (L := L) (k := ops.length) (by omega) hil (.inr h1)
        have h2 := hi.2
        rw [getD_of this] at h2; cases h2
      · exact farOf_spec hf d hd
    have hul := unlisted_set (L := L) hjl (by omega) hj1
    unfold wpOpIn
    rw [ho]
    dsimp only
    rw [if_pos (hwant _)]
    by_cases hm : j ∈ hs
    · -- a read
      obtain ⟨hpr, _⟩ := hH hm
      have hCR : C w ∧ ReadsAt F n P C ops hs b := by
        rcases hC with h | h
        · have := h j hm hjl; rw [getD_of this] at hj1; cases hj1
        · exact h
      obtain ⟨hask, v, hv, hq⟩ := hCR.2 j o hm hoj
      obtain ⟨e1, e2⟩ := quietAt_of (P := P) (pureRead_sel hpr) hev
      refine pure_runs (C := C) (v := v) hpr ?_ ?_ (fun f hf => hask w hCR.1 f (by rw [← e2]; exact hf))
      · have := hq w hCR.1
        unfold Oper.quietAtIn at this ⊢
        rw [e1]
        exact this
      · refine ih _ LT _ b w (by simpa using hs1) hs2 (fun i hi hn => ?_) hT (by omega) (.inr hCR) (hl.head hoj hv fun i hi => ?_) h
        · rw [Array.getElem?_setIfInBounds_ne (show j ≠ i from fun e => hn (by rw [← e]; exact hm))]; exact hsy i hi hn
        · by_cases hij : i = j
          · exact .inl hij
          · refine .inr ⟨hi.1, ?_⟩
            rw [getD_set_ne true (Ne.symm hij)]; exact hi.2
    · -- one of the others
      obtain ⟨hnd, hns, _⟩ := hTl hm
      obtain ⟨e1, e2⟩ := quietAt_of (P := P) (sel_of hns) hev
      have hjT : LT[j]? = L[j]? := (hsy j hjl hm).symm
      have hjT1 : LT.getD j true = false := by rw [Array.getD_eq_getD_getElem?, hjT, ← Array.getD_eq_getD_getElem?]; exact hj1
      have hulT := unlisted_set (L := LT) hjl (by omega) hjT1
      have hrT : j ∈ Region.ready .any ops.toArray LT := mem_ready.2 ⟨hjT1, o, ho, fun e he hb => by
        have h1 := hall e he hb
        have hel := ownEdges_spec hA.edges e he hb
        by_cases hem : e.on ∈ hs
        · exact getD_of (hT e.on hem (by omega))
        · have := listed_of (L := L) (k := ops.length) (by omega) (show e.on < ops.length by omega) (.inr h1)
          exact getD_of (by rw [← hsy e.on (by omega) hem]; exact this)⟩
      rw [← hulT] at h
      have h := h.2 j hrT o hoj
      simp only [wpListIn] at h
      rw [if_pos (hwant _)] at h
      have next : ∀ (a' b' : Act) (w' : World), Lack ops (fun i => i ∈ hs ∧ L.getD i true = false) a' b' → (ReadsAt F n P C ops hs b → ReadsAt F n P C ops hs b') → (waits j = false → C w') →
          wpRest F n P ops C waits (fun a w => Q .normal a w) (unlisted ops.length (LT.setIfInBounds j true)) (LT.setIfInBounds j true) b' w' → wpAnyIn F n P .any ops.toArray Q g (L.setIfInBounds j true) a' w' := fun a' b' w' hl' hR hC' h' => by
        have hkeep : ∀ i ∈ hs, (L.setIfInBounds j true)[i]? = L[i]? := fun i hi => Array.getElem?_setIfInBounds_ne (show j ≠ i from fun e => hm (by rw [e]; exact hi))
        refine ih _ _ a' b' w' (by simpa using hs1) (by simpa using hs2) (fun i hi hn => ?_) (fun i hi hil => ?_) (by omega) ?_ (hl'.mono fun i hil hi => ⟨hi.1, ?_⟩) h'
        · by_cases hij : j = i
          · subst hij
            rw [Array.getElem?_setIfInBounds_self_of_lt (by omega), Array.getElem?_setIfInBounds_self_of_lt (by omega)]
          · rw [Array.getElem?_setIfInBounds_ne hij, Array.getElem?_setIfInBounds_ne hij]; exact hsy i hi hn
        · rw [Array.getElem?_setIfInBounds_ne (show j ≠ i from fun e => hm (by rw [e]; exact hi))]; exact hT i hi hil
        · cases hwj : waits j with
          | true =>
            refine .inl fun i hi hil => ?_
            rw [hkeep i hi]
            obtain ⟨e, he, hb, hon⟩ := waitsOn_spec (hw j o hoj hwj i hi)
            have h1 := hall e he hb
            rw [hon] at h1
            exact listed_of (k := ops.length) (by omega) hil (.inr h1)
          | false =>
            rcases hC with h | h
            · exact .inl fun i hi hil => by rw [hkeep i hi]; exact h i hi hil
            · exact .inr ⟨hC' hwj, hR h.2⟩
        · have := hi.2
          rw [Array.getD_eq_getD_getElem?] at this ⊢
          rw [hkeep i hi.1]; exact this
      refine wpIn_move hnd e1 (e2 w) (fun v w' h' => ?_) (fun d w' h' => ?_) (fun e a w h => h.1) h
      · exact next _ _ _ (hl.tail _ _) (fun hR => hR.tail hok hoj hm v) h'.2.1 h'.2.2
      · refine next _ _ _ ((hl.defer d).tail _ _) (fun hR => (hR.defers _).tail hok hoj hm undef) h'.2.1 h'.2.2

/-- What has come when just the reads have. -/
def ltOf (ops : List Oper) (hs : List Nat) : Array Bool := ((List.range ops.length).map fun i => hs.contains i).toArray
def ascending : List Nat → Bool
  | [] => true
  | [_] => true
  | a :: b :: l => decide (a < b) && ascending (b :: l)
theorem ascending_spec : ∀ {l : List Nat}, ascending l = true → l.Pairwise (· < ·)
  | [], _ => List.Pairwise.nil
  | [_], _ => by simp
  | a :: b :: l, h => by
    simp only [ascending, Bool.and_eq_true, decide_eq_true_eq] at h
    have ih := ascending_spec h.2
    rw [List.pairwise_cons]
    refine ⟨fun c hc => ?_, ih⟩
    rcases List.mem_cons.1 hc with rfl | hc
    · exact h.1
    · exact Nat.lt_trans h.1 ((List.pairwise_cons.1 ih).1 c hc)
def openAll (ops : List Oper) (hs ws : List Nat) : Bool :=
  openOk ops hs && ascending hs && hs.all (fun i => decide (i < ops.length)) && (unlisted ops.length (ltOf ops hs) == ops.length - hs.length) &&
  ws.all fun j => match ops[j]? with | none => true | some o => hs.all fun i => waitsOn o i

/-- What is asked behind one of the others. -/
def RestPost (F : Fence) (n : Nat) (P : Program) (ops : List Oper) (C : World → Prop) (waits : Nat → Bool) (Q' : Act → World → Prop) (f : Nat) (LT : Array Bool) (i : Nat) : Exit → Act → World → Prop :=
  fun e a' w' => e = .normal ∧ (waits i = false → C w') ∧ wpRest F n P ops C waits Q' f (LT.setIfInBounds i true) a' w'
theorem rest_post {waits : Nat → Bool} {Q' : Act → World → Prop} {f : Nat} {LT : Array Bool} {i : Nat} {a : Act} {w : World} (hC : C w) (h : wpRest F n P ops C waits Q' f (LT.setIfInBounds i true) a w) : RestPost F n P ops C waits Q' f LT i .normal a w := ⟨rfl, fun _ => hC, h⟩
theorem rest_last {waits : Nat → Bool} {Q' : Act → World → Prop} {f : Nat} {LT : Array Bool} {i : Nat} {a : Act} {w : World} (hw : waits i = true) (h : wpRest F n P ops C waits Q' f (LT.setIfInBounds i true) a w) : RestPost F n P ops C waits Q' f LT i .normal a w := ⟨rfl, fun e => (by rw [hw] at e; cases e), h⟩
theorem rest_one {waits : Nat → Bool} {Q' : Act → World → Prop} {f : Nat} {LT : Array Bool} {a : Act} {w : World} (i : Nat) {o : Oper} (hr : Region.ready .any ops.toArray LT = [i]) (ho : ops[i]? = some o)
    (h : wpListIn F n P ops.toArray (RestPost F n P ops C waits Q' f LT i) [o] a w) : wpRest F n P ops C waits Q' (f + 1) LT a w :=
  ⟨fun e => (by rw [hr] at e; cases e), fun j hj o' ho' => by
    rw [hr] at hj
    obtain rfl : j = i := by simpa using hj
    rw [ho] at ho'
    cases ho'
    exact h⟩
theorem rest_two {waits : Nat → Bool} {Q' : Act → World → Prop} {f : Nat} {LT : Array Bool} {a : Act} {w : World} (i j : Nat) {o o2 : Oper} (hr : Region.ready .any ops.toArray LT = [i, j]) (ho : ops[i]? = some o) (ho2 : ops[j]? = some o2)
    (h : wpListIn F n P ops.toArray (RestPost F n P ops C waits Q' f LT i) [o] a w) (h2 : wpListIn F n P ops.toArray (RestPost F n P ops C waits Q' f LT j) [o2] a w) : wpRest F n P ops C waits Q' (f + 1) LT a w :=
  ⟨fun e => (by rw [hr] at e; cases e), fun k hk o' ho' => by
    rw [hr] at hk
    simp only [List.mem_cons, List.not_mem_nil, or_false] at hk
    rcases hk with rfl | rfl
    · rw [ho] at ho'; cases ho'; exact h
    · rw [ho2] at ho'; cases ho'; exact h2⟩
theorem rest_done {waits : Nat → Bool} {Q' : Act → World → Prop} {LT : Array Bool} {a : Act} {w : World} (hr : Region.ready .any ops.toArray LT = []) (h : Q' a w) : wpRest F n P ops C waits Q' 0 LT a w := ⟨hr, h⟩

/-- A region that draws its order: hs are reads, which read the same in every world of the class C; ws wait for all of them; behind each of the others the world is one of C. -/
theorem wpIn_open {id : Nat} {Q : Exit → Act → World → Prop} {a : Act} {w : World} {ops : List Oper} (C : World → Prop) (hs ws : List Nat) (hm : P.follows .mixedOrders = true) (hB : openAll ops hs ws = true) (hC : C w.drew)
    (h : wpQuietIn F n P ops.toArray C (fun a' => wpRest F n P ops C (fun i => ws.contains i) (fun a w => Q .normal a w) (ops.length - hs.length) (ltOf ops hs) a' w.drew) (pickOps ops hs) a) :
    (Code.region id ops.toArray true).wpIn F n P Q a w := by
  simp only [openAll, Bool.and_eq_true, beq_iff_eq] at hB
  obtain ⟨⟨⟨⟨hok, hasc⟩, hin⟩, hcount⟩, hws⟩ := hB
  have hin' : ∀ i ∈ hs, i < ops.length := fun i hi => by simpa using List.all_eq_true.1 hin i hi
  refine wpIn_region_any hm ?_
  obtain ⟨b, q1, q2, q3, _⟩ := reads_frame hok _ hs a (ascending_spec hasc) (fun i hi => ⟨hi, hin' i hi⟩) h
  have hun : unlisted ops.length (Array.replicate ops.length false) = ops.length := by
    unfold unlisted
    rw [List.filter_eq_self.2 (fun i hi => ?_), List.length_range]
    have := List.mem_range.1 hi
    simp only [Array.getD_eq_getD_getElem?]
    rw [Array.getElem?_replicate, if_pos (by omega)]; rfl
  have hlt : ∀ i, i < ops.length → (ltOf ops hs)[i]? = some (hs.contains i) := fun i hi => by simp [ltOf, hi]
  rw [← hcount] at q1
  have hrun := open_run (F := F) (n := n) (P := P) (C := C) hok (fun i => ws.contains i) (fun j o ho hj i hi => by
      have := List.all_eq_true.1 hws j (by simpa using hj)
      rw [ho] at this
      exact List.all_eq_true.1 this i hi) Q ops.length (Array.replicate ops.length false) (ltOf ops hs) a b w.drew (by simp) (by simp [ltOf])
    (fun i hi hn => by rw [hlt i hi, Array.getElem?_replicate, if_pos hi]; simp [hn]) (fun i hi hil => by rw [hlt i hil]; simp [hi]) hun (.inr ⟨hC, fun i o hi ho => q3 i o hi ho⟩)
    ⟨q2.defers, q2.size, fun s hss => q2.same s fun i o hi ho => hss i o ⟨hi, by
      simp only [Array.getD_eq_getD_getElem?]
      rw [Array.getElem?_replicate, if_pos (hin' i hi)]; rfl⟩ ho⟩ q1
  simpa using hrun
end
end
end Go.Proofs.YtlocafmglficnaaGreatDoor
