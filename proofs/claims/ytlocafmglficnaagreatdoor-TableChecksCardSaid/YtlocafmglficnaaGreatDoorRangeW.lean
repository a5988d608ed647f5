/- A range over a function whose yields come in a known order: the body is asked only at what comes next, and is told what holds of it in memory. -/
import Derived.RangeFuncNested
import Derived.RangeFuncBound
import Derived.RangeFuncCalls
import Derived.RangeFuncLeaves
import Derived.Shelf.Abstract
import Derived.Shelf.RegionOpen
import Derived.OwnWalkIn
import Derived.TacticsInMore
import Derived.LoopNIn
import Derived.LoopIn
import Derived.WalkHide
import Derived.Test.YtlocafmglficnaaGreatDoorDraws
namespace Go.Proofs.YtlocafmglficnaaGreatDoor
open Go.RowKit Go.Shelf

/-- One block at or beyond B, that holds no cells, has been turned. -/
def Turn (B : Nat) (W W' : World) : Prop := ∃ r o o', B ≤ r ∧ W.heap[r]? = some o ∧ o.isCells = false ∧ W' = W.putObj r o'
theorem OwnFrom.turn {β : Type} {B : Nat} {I : β → World → Prop} (h : OwnFrom B I) {s : β} {W W' : World} (hs : I s W) (ht : Turn B W W') : I s W' := by
  obtain ⟨r, o, o', hr, ho, hc, rfl⟩ := ht
  exact h.putObj o' hs hr ho hc

theorem below_drewN' {B : Nat} {a w : World} (h : Below B a w) (k : Nat) : Below B a (w.drewN k) := ⟨h.os, h.tape, h.output, h.size, h.block⟩
theorem keeps_drewN (w : World) (k : Nat) : KeepsOthers w (w.drewN k) := ⟨Nat.le_refl _, fun _ _ h _ => h⟩
theorem keeps_of_below {w w' : World} (h : Below w.heap.size w w') : KeepsOthers w w' := ⟨h.size, fun k _ hk _ => (h.block k (Array.getElem?_eq_some_iff.1 hk).1).trans hk⟩

theorem bx_own {W W' : World} {row : Option Nat} {B g : Nat} {t : TypeId} {v : Value} (h : Boxed W g t v) (hg : W.grownBy W' row) (hr : ∀ r, row = some r → B ≤ r ∧ ∃ o : Obj, W.heap[r]? = some o ∧ o.isCells = false) : Boxed W' g t v :=
  (hg.block g h.lt (fun e => by obtain ⟨_, o, ho, hc⟩ := hr g e.symm; rw [show W.heap[g]? = _ from h] at ho; cases ho; cases hc)).trans h
theorem below_own_ {w W W' : World} {row : Option Nat} {B n₀ : Nat} (h : Below n₀ w W) (hn : n₀ ≤ w.heap.size) (hB : n₀ ≤ B) (hg : W.grownBy W' row) (hr : ∀ r, row = some r → B ≤ r ∧ ∃ o : Obj, W.heap[r]? = some o ∧ o.isCells = false) : Below n₀ w W' :=
  h.grown hg (Nat.le_trans hn h.size) (fun k e => by have := (hr k e).1; omega)
theorem bx_below {w w' : World} {B g : Nat} {t : TypeId} {v : Value} (h : Boxed w g t v) (hb : Below B w w') (hg : g < B) : Boxed w' g t v := (hb.block g hg).trans h

theorem inAt_zero {F : Fence} {n : Nat} {P : Program} {o : Oper} {l : List Oper} {h : 0 < (o :: l).toArray.size} {a : Act} {w : World} {K : Act → World → Prop} {Q : Exit → Act → World → Prop} : Oper.wpIn F n P ((o :: l).toArray[0]'h) a w K Q = Oper.wpIn F n P o a w K Q := rfl
theorem inAt_succ {F : Fence} {n : Nat} {P : Program} {o : Oper} {l : List Oper} {k : Nat} {h : k + 1 < (o :: l).toArray.size} {a : Act} {w : World} {K : Act → World → Prop} {Q : Exit → Act → World → Prop} : Oper.wpIn F n P ((o :: l).toArray[k + 1]'h) a w K Q = Oper.wpIn F n P (l.toArray[k]'(by simpa using h)) a w K Q := rfl

/-- As 'CallsIn.quiet_of_same', behind a first region. -/
theorem quiet_of_same2 {F : Fence} {r : Nat} {P : Program} {f : FuncId} {args : Array Value} {w : World} {k n : Nat} {v : Value}
    (h : CallsIn F r P f args (w.drewN (k + n)) fun e w' => e = .returned v ∧ w' = w.drewN (k + n)) : CallsIn F r P f args (w.drewN (k + n)) fun e w'' => e = .returned v ∧ ∃ m, w'' = w.drewN (k + m) :=
  h.mono fun _ _ ⟨he, hm⟩ => ⟨he, n, hm⟩

/-- How a round's body may be left. -/
def ordPost {α : Type} (I : List α → World → Prop) (Ix : Code → List α → World → Prop) (xs : List α) (W : World) : Exit → Act → World → Prop
  | .normal, _, W' => KeepsOthers W W' ∧ I xs W'
  | .ret, _, W' => KeepsOthers W W' ∧ Ix .ret xs W'
  | .exit id, _, W' => KeepsOthers W W' ∧ Ix (.exit id) xs W'
  | .goto t, _, W' => KeepsOthers W W' ∧ Ix (.goto t) xs W'
  | .panic _, _, _ => False
  | .outgrown, _, _ => False

/-- An iterator, called with a yield that keeps J from round to round: all has come, or a round has left. J may be used by the iterator (hG), and stays where blocks are laid. -/
def SeqOrd {α : Type} (F : Fence) (n : Nat) (P : Program) (g : Nat) (lb : Array Value) (encs : α → Array Value) (Nx : List α → α → World → Prop) (S : List α → Prop) (G : World → Prop) : Prop :=
  ∀ (l : Nat) (J Jx : List α → World → Prop) (W : World), (∀ pre W1, J pre W1 → G W1) → AbidesFrom W.heap.size J → AbidesFrom W.heap.size Jx →
    (∀ pre x W1, J pre W1 → Nx pre x W1 → YieldAt F (n - 1) P l (encs x) W1 fun e W' => (e = .returned (.bool true) ∧ J (pre ++ [x]) W') ∨ (e = .returned (.bool false) ∧ Jx (pre ++ [x]) W')) →
    J [] W →
    CallsIn F n P g (#[.func (.yield l) #[] #[]] ++ lb) W fun e W' => (∃ v, e = .returned v) ∧ ((∃ xs, S xs ∧ J xs W') ∨ (∃ pre x, Jx (pre ++ [x]) W'))

section
variable {F : Fence} {n : Nat} {P : Program}

/-- The loop's own two blocks: the record (in a state, with a pending jump) and the deferred calls. -/
def Books (rec : LoopState → Option Code → Loop) (D : Nat) (st : LoopState) (pe : Option Code) (W : World) : Prop :=
  W.heap[D + 1]? = some (.loop (rec st pe)) ∧ W.heap[D]? = some (.deferred (some []))

theorem Books.abides {rec : LoopState → Option Code → Loop} {D B : Nat} {st : LoopState} {pe : Option Code} {W W' : World} {row : Option Nat} (h : Books rec D st pe W) (hg : W.grownBy W' row)
    (hr : ∀ r, row = some r → B ≤ r ∧ ∃ o : Obj, W.heap[r]? = some o ∧ o.isWalk = true) : Books rec D st pe W' :=
  ⟨(grownBy_keeps hg (fun r e => (hr r e).2) h.1 rfl).trans h.1, (grownBy_keeps hg (fun r e => (hr r e).2) h.2 rfl).trans h.2⟩
theorem Books.turned {rec : LoopState → Option Code → Loop} {D : Nat} {st : LoopState} {pe : Option Code} {W : World} (h : Books rec D st pe W) (o : Loop) :
    (W.putObj (D + 1) (.loop o)).heap[D + 1]? = some (.loop o) ∧ (W.putObj (D + 1) (.loop o)).heap[D]? = some (.deferred (some [])) ∧ Turn D W (W.putObj (D + 1) (.loop o)) :=
  ⟨World.putObj_heap_same (Array.getElem?_eq_some_iff.1 h.1).1, (World.putObj_heap_other (by omega)).trans h.2, D + 1, _, _, by omega, h.1, rfl, rfl⟩

theorem wpIn_range_ord {α : Type} {g : Operand} {ps : Array Tmp} {assign body : Code} {Q : Exit → Act → World → Prop} {a : Act} {w : World}
    (hro : F.round = none) (h1 : 1 ≤ n) {gf : Nat} {lb : Array Value} (hg : a.eval g = .func (.func gf) #[] lb) (hFg : F.fn gf) (eg : ∀ args w, (callFunc gf args).run P w = .ok (.enter gf args) w)
    {encs : α → Array Value} {Nx : List α → α → World → Prop} {S : List α → Prop} {G : World → Prop} (hseq : SeqOrd F (n - 1) P gf lb encs Nx S G) (hps : ∀ x, (encs x).size = ps.size)
    (I : List α → World → Prop) (Ix : Code → List α → World → Prop) (hG : ∀ pre W, I pre W → G W) (hI : OwnFrom w.heap.size I) (hIx : ∀ c, OwnFrom w.heap.size (Ix c)) (h0 : I [] w)
    (hround : ∀ (l : Nat) (pre : List α) (x : α) (W : World) (K : Act → World → Prop), I pre W → Nx pre x W →
      (∀ a' Wa, KeepsOthers W Wa → I pre Wa → (∀ Wb, Turn w.heap.size Wa Wb → I pre Wb → body.wpIn (F.inRound l) (n - 1 - 1) P (ordPost I Ix (pre ++ [x]) Wb) a' Wb) → K a' Wa) →
      assign.wpIn (F.inRound l) (n - 1 - 1) P (Exit.then K (fun _ _ _ => False)) { tmps := (ps.zip (encs x)).foldl (fun t (p, v) => t.setIfInBounds p v) a.tmps, defers := [] } W)
    (hdone : ∀ (D : Nat) (xs : List α) (W : World), w.heap.size ≤ D → S xs → I xs W → W.heap[D]? = some (.deferred (some [])) → Q .normal { a with defers := { target := .collected D, args := #[] } :: a.defers } W)
    (hstop : ∀ (D : Nat) (c : Code) (pre : List α) (x : α) (W : World), w.heap.size ≤ D → Ix c (pre ++ [x]) W → W.heap[D]? = some (.deferred (some [])) → c.wpIn F n P Q { a with defers := { target := .collected D, args := #[] } :: a.defers } W) :
    (Code.rangeFunc g ps assign body).wpIn F n P Q a w := by
  refine wpIn_rangeFunc ?_
  intro fn hfn
  rw [hro]
  obtain ⟨rec, hrec⟩ : ∃ rec : LoopState → Option Code → Loop, rec = fun st pe => { state := st, pending := pe, fn, tmps := a.tmps, params := ps, assign, body, defers := w.heap.size } := ⟨_, rfl⟩
  obtain ⟨W1, hW1⟩ : ∃ W1, (w.alloc (.deferred (some []))).alloc (.loop (rec .ready none)) = W1 := ⟨_, rfl⟩
  have hb1 : Books rec w.heap.size .ready none W1 := by
    subst hW1
    refine ⟨?_, (Below.heap_alloc _ _ _ (by simp)).trans (World.alloc_heap_new w _)⟩
    have := World.alloc_heap_new (w.alloc (.deferred (some []))) (.loop (rec .ready none))
    rwa [World.size_alloc] at this
  have hI1 : I [] W1 := by subst hW1; exact hI.alloc _ (hI.alloc _ h0)
  have hsz : w.heap.size ≤ W1.heap.size := by subst hW1; simp; omega
  have enters : (Instr.enterLoop fn a.tmps ps assign body none).run P w = .ok (w.heap.size + 1, [{ target := .collected w.heap.size, args := #[] }]) W1 := by
    rw [← hW1, hrec]; exact run_enterLoop_outer _ _ _ _ _
  clear hW1
  have hnw : ∀ {A : World} {row : Option Nat}, (∀ r, row = some r → W1.heap.size ≤ r ∧ ∃ o : Obj, A.heap[r]? = some o ∧ o.isWalk = true) → ∀ r, row = some r → w.heap.size ≤ r ∧ ∃ o : Obj, A.heap[r]? = some o ∧ o.isCells = false :=
    fun hr r e => by obtain ⟨hB, o, ho, hw⟩ := hr r e; exact ⟨by omega, o, ho, Obj.not_cells_of_walk hw⟩
  refine ⟨w.heap.size + 1, _, W1, { target := .fn (.func gf) lb, args := #[.func (.yield (w.heap.size + 1)) #[] #[]] }, W1, gf, #[.func (.yield (w.heap.size + 1)) #[] #[]] ++ lb, W1, enters, ?_, ?_, ?_, fun _ => h1, ?_⟩
  · simp only [resolve, hg]
    simp [go_sem]
  · intro f' hf'; simp [Target.leads] at hf'; subst hf'; exact hFg
  · simp [invoke, go_sem, eg]
  refine (hseq (w.heap.size + 1) (fun pre W => I pre W ∧ Books rec w.heap.size .ready none W) (fun pre W => ∃ c, Ix c pre W ∧ Books rec w.heap.size .done (some c) W) W1
    (fun pre W h => hG pre W h.1)
    (fun s A A' row hs hg' hr => ⟨hI s A A' row hs.1 hg' (hnw hr), hs.2.abides hg' hr⟩)
    (fun s A A' row hs hg' hr => by obtain ⟨c, hc, hk⟩ := hs; exact ⟨c, hIx c s A A' row hc hg' (hnw hr), hk.abides hg' hr⟩)
    ?_ ⟨hI1, hb1⟩).mono ?_
  · rintro pre x W ⟨hi, hk⟩ hnx
    have hy := run_yield (P := P) (args := encs x) hk.1 (by rw [hrec]; exact hps x)
    rw [hrec] at hy
    refine ⟨fn, _, assign, body, hy, roundIn_of_wpIn hfn (hround _ pre x W _ hi hnx ?_)⟩
    clear hy
    intro a' Wa hka hia hbody
    have hka' : Books rec w.heap.size .ready none Wa := ⟨hka.same _ _ hk.1 rfl, hka.same _ _ hk.2 rfl⟩
    refine ⟨_, run_beginRound hka'.1 (by rw [hrec]), ?_⟩
    obtain ⟨t1, t2, t3⟩ := hka'.turned { rec .ready none with state := .busy }
    refine wpIn_mono (hbody _ t3 (OwnFrom.turn hI hia t3)) ?_
    -- the round's end, by whatever jump
    have fin : ∀ (jump : Option Code) (W3 : World), KeepsOthers (Wa.putObj (w.heap.size + 1) (.loop { rec .ready none with state := .busy })) W3 →
        ∃ W4, (Instr.endRound (w.heap.size + 1) jump).run P W3 = .ok (.bool jump.isNone) W4 ∧ Books rec w.heap.size (if jump.isNone then .ready else .done) jump W4 ∧ Turn w.heap.size W3 W4 := by
      intro jump W3 hk3
      have b3 : Books (fun _ _ => { rec .ready none with state := .busy }) w.heap.size .ready none W3 := ⟨hk3.same _ _ t1 rfl, hk3.same _ _ t2 rfl⟩
      obtain ⟨u1, u2, u3⟩ := b3.turned (rec (if jump.isNone then .ready else .done) jump)
      refine ⟨_, ?_, ⟨u1, u2⟩, u3⟩
      have := run_endRound (P := P) jump b3.1
      rw [hrec] at this ⊢
      exact this
    intro e a3 W3 hp
    cases e with
    | normal => obtain ⟨W4, r1, r2, r3⟩ := fin none W3 hp.1; exact ⟨_, _, r1, .inl ⟨rfl, OwnFrom.turn hI hp.2 r3, r2⟩⟩
    | ret => obtain ⟨W4, r1, r2, r3⟩ := fin (some .ret) W3 hp.1; exact ⟨_, _, r1, .inr ⟨rfl, .ret, OwnFrom.turn (hIx _) hp.2 r3, r2⟩⟩
    | exit id => obtain ⟨W4, r1, r2, r3⟩ := fin (some (.exit id)) W3 hp.1; exact ⟨_, _, r1, .inr ⟨rfl, .exit id, OwnFrom.turn (hIx _) hp.2 r3, r2⟩⟩
    | goto t => obtain ⟨W4, r1, r2, r3⟩ := fin (some (.goto t)) W3 hp.1; exact ⟨_, _, r1, .inr ⟨rfl, .goto t, OwnFrom.turn (hIx _) hp.2 r3, r2⟩⟩
    | panic ch => exact hp.elim
    | outgrown => exact hp.elim
  · rintro e W2 ⟨⟨v, rfl⟩, (⟨xs, hS, hi, hk⟩ | ⟨pre, x, c, hi, hk⟩)⟩
    · have hend := run_endLoop (P := P) hk.1 (by rw [hrec]; simp)
      obtain ⟨t1, t2, t3⟩ := hk.turned { rec .ready none with state := .exhausted }
      rw [hrec] at hend t2 t3
      exact ⟨none, _, hend, hdone _ xs _ (Nat.le_refl _) hS (OwnFrom.turn hI hi t3) t2⟩
    · have hend := run_endLoop (P := P) hk.1 (by rw [hrec]; simp)
      obtain ⟨t1, t2, t3⟩ := hk.turned { rec .done (some c) with state := .exhausted }
      rw [hrec] at hend t2 t3
      exact ⟨some c, _, hend, hstop _ c pre x _ (Nat.le_refl _) (OwnFrom.turn (hIx c) hi t3) t2⟩
end

end Go.Proofs.YtlocafmglficnaaGreatDoor
