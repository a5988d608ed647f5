/- Words for memory: a row of cells; a slice that holds limbs. Regions that draw their order within a round of a range over a function: those that only read; those whose last operations wait for all others; those whose reads may come among the others. -/
import Derived.WalkKit
import Derived.Deep.DeepCutAuto
import Derived.Deep.Light
import Derived.Maps.AppendAt
import Derived.Lib.Hide
import Derived.Handy
import Derived.BigGuardPart
import Derived.Deep.QuietTactic
import Derived.BigQuiet
import Derived.WalkSpells
import Derived.WalkLawsBesides
import Derived.Deep.LoopGhost
import Derived.Test.YtjoifmnolmimkaaGreatDoorRb01
import Derived.Test.YtjoifmnolmimkaaGreatDoorProg
import Derived.Sort.BigQuietIn
import Derived.OrdersIn
import Derived.TacticsIn
import Derived.AtR
import Derived.CallsIn
import Derived.Below
namespace Go.Proofs.YtjoifmnolmimkaaGreatDoor
open Go.RowKit
open Lim

/-- The cells from an address on hold xs. -/
def Row (w : World) (A : Option Addr) (xs : List Value) : Prop :=
  0 < xs.length → ∃ b o, A = some ⟨b, o, none⟩ ∧ b < w.heap.size ∧ ∀ (j : Nat) (x : Value), xs[j]? = some x → w.cell? ⟨b, o + j, none⟩ = some x

section
variable {w w' : World} {A : Option Addr} {xs : List Value}
theorem Row.nil : Row w A [] := fun h => absurd h (by simp)
theorem Row.below (h : Row w A xs) (hb : Below w.heap.size w w') : Row w' A xs := fun h0 => by
  obtain ⟨b, o, e, hlt, hc⟩ := h h0
  exact ⟨b, o, e, Nat.lt_of_lt_of_le hlt hb.size, fun j x hx => (hb.cell (p := ⟨b, o + j, none⟩) hlt).trans (hc j x hx)⟩
theorem Row.take (h : Row w A xs) (k : Nat) : Row w A (xs.take k) := fun h0 => by
  obtain ⟨b, o, e, hlt, hc⟩ := h (by rw [List.length_take] at h0; omega)
  refine ⟨b, o, e, hlt, fun j x hx => hc j x ?_⟩
  by_cases hj : j < k
  · rwa [List.getElem?_take_of_lt hj] at hx
  · rw [List.getElem?_eq_none (by rw [List.length_take]; omega)] at hx
    cases hx
theorem Row.drewN (h : Row w A xs) (n : Nat) : Row (w.drewN n) A xs := h
end

/-- Limbs as cells. -/
def U64 (l : List Nat) : List Value := l.map fun (x : Nat) => Value.int .u64 (x : Int)
def I64 (l : List Nat) : List Value := l.map fun (x : Nat) => Value.int .i64 (x : Int)
theorem U64_length (l : List Nat) : (U64 l).length = l.length := by simp [U64]
theorem I64_length (l : List Nat) : (I64 l).length = l.length := by simp [I64]
theorem U64_get {l : List Nat} {j : Nat} (h : j < l.length) : (U64 l)[j]? = some (.int .u64 ((l[j]?.getD 0 : Nat) : Int)) := by simp [U64, h]
theorem I64_get {l : List Nat} {j : Nat} (h : j < l.length) : (I64 l)[j]? = some (.int .i64 ((l[j]?.getD 0 : Nat) : Int)) := by simp [I64, h]

/-- A slice of limbs. -/
def IsNat (w : World) (v : Value) (n : Nat) : Prop := ∃ A c, v = .slice A (toL n).length c ∧ (toL n).length ≤ c ∧ c ≤ maxLen ∧ Row w A (U64 (toL n))
def IsNatI (w : World) (v : Value) (n : Nat) : Prop := ∃ A c, v = .slice A (toL n).length c ∧ (toL n).length ≤ c ∧ c ≤ maxLen ∧ Row w A (I64 (toL n))
theorem IsNat.below {w w' : World} {v : Value} {n : Nat} (h : IsNat w v n) (hb : Below w.heap.size w w') : IsNat w' v n := by
  obtain ⟨A, c, e, h1, h2, h3⟩ := h
  exact ⟨A, c, e, h1, h2, h3.below hb⟩
theorem IsNatI.below {w w' : World} {v : Value} {n : Nat} (h : IsNatI w v n) (hb : Below w.heap.size w w') : IsNatI w' v n := by
  obtain ⟨A, c, e, h1, h2, h3⟩ := h
  exact ⟨A, c, e, h1, h2, h3.below hb⟩

/-- What a slice of the call's own holds. -/
theorem row_of_owns {w : World} {base e n : Nat} {A : Option Addr} {c : Nat} {xs : List Value} (h : w.ownsRow base e 1 (.slice A n c) n xs) : n = xs.length ∧ n ≤ c ∧ c ≤ maxLen ∧ Row w A xs := by
  have hl : n = xs.length := by have := h.1; omega
  rcases h.2 with ⟨e1, rfl⟩ | ⟨g, cap, cur, e1, _, hh, h1, h2, _⟩
  · injection e1 with e1 e2 e3
    subst e1; subst e3
    exact ⟨hl, Nat.le_refl _, by unfold maxLen; omega, fun h0 => by omega⟩
  · injection e1 with e1 e2 e3
    subst e1; subst e3
    refine ⟨hl, h1, h2, fun _ => ⟨g, 0, rfl, (Array.getElem?_eq_some_iff.1 hh).1, fun j x hx => ?_⟩⟩
    have := h.cells (g := g) rfl j x hx
    rw [show (⟨g, 0, none⟩ : Addr).add j = ⟨g, 0 + j, none⟩ by unfold Addr.add; split <;> simp_all] at this
    exact this
theorem slice_of_owns {w : World} {base e n : Nat} {v : Value} {xs : List Value} (h : w.ownsRow base e 1 v n xs) : ∃ A c, v = .slice A n c := by
  rcases h.2 with ⟨e1, rfl⟩ | ⟨g, cap, cur, e1, _⟩
  · exact ⟨_, _, e1⟩
  · exact ⟨_, _, e1⟩
theorem isNat_of_owns {w : World} {base e n m : Nat} {v : Value} (h : w.ownsRow base e 1 v n (U64 (toL m))) : IsNat w v m := by
  obtain ⟨A, c, rfl⟩ := slice_of_owns h
  obtain ⟨h0, h1, h2, h3⟩ := row_of_owns h
  rw [U64_length] at h0
  subst h0
  exact ⟨A, c, rfl, h1, h2, h3⟩
theorem isNatI_of_owns {w : World} {base e n m : Nat} {v : Value} (h : w.ownsRow base e 1 v n (I64 (toL m))) : IsNatI w v m := by
  obtain ⟨A, c, rfl⟩ := slice_of_owns h
  obtain ⟨h0, h1, h2, h3⟩ := row_of_owns h
  rw [I64_length] at h0
  subst h0
  exact ⟨A, c, rfl, h1, h2, h3⟩
theorem U64_snoc (L : List Nat) (m : Nat) : U64 L ++ [.int .u64 (m : Int)] = U64 (L ++ [m]) := by simp [U64]
theorem I64_snoc (L : List Nat) (m : Nat) : I64 L ++ [.int .i64 (m : Int)] = I64 (L ++ [m]) := by simp [I64]
theorem modB_cast (m : Nat) : (m : Int) % 1000000000 = ((m % B : Nat) : Int) := by rw [B_val]; omega
theorem divB_cast (m : Nat) : (m : Int) / 1000000000 = ((m / B : Nat) : Int) := by rw [B_val]; omega

theorem Tryz.infoU : (Tryz.prog.info? 52).map (fun i => (i.zero, i.size, i.bytes)) = some (some (.int .u64 0), 1, 8) := by kernel_rfl
theorem Tryz.infoI : (Tryz.prog.info? 3).map (fun i => (i.zero, i.size, i.bytes)) = some (some (.int .i64 0), 1, 8) := by kernel_rfl

/-- Block g is just the cells cs of element type t, none frozen. -/
def Blk (w : World) (g : Nat) (t : TypeId) (cs : Array Value) : Prop := w.heap[g]? = some (.cells cs t (0, 0))
section
variable {w w' : World} {g : Nat} {t : TypeId} {cs : Array Value}
theorem Blk.lt (h : Blk w g t cs) : g < w.heap.size := by
  rcases Nat.lt_or_ge g w.heap.size with hlt | hge
  · exact hlt
  · unfold Blk at h; rw [Array.getElem?_eq_none hge] at h; cases h
theorem Blk.cell (h : Blk w g t cs) (i : Nat) : w.cell? ⟨g, i, none⟩ = cs[i]? := cell_of_row w g i cs t (0, 0) h
theorem Blk.frozen (h : Blk w g t cs) (i : Nat) : w.frozen? ⟨g, i, none⟩ = false := by
  unfold Blk at h
  simp [World.frozen?, h]
theorem Blk.new (w : World) (t : TypeId) (cs : Array Value) : Blk (w.alloc (.cells cs t)) w.heap.size t cs := heap_alloc_new w _
theorem Blk.alloc (h : Blk w g t cs) (o : Obj) : Blk (w.alloc o) g t cs := (Below.heap_alloc w o g h.lt).trans h
theorem Blk.drew (h : Blk w g t cs) : Blk w.drew g t cs := h
theorem Blk.set_ (h : Blk w g t cs) (i : Nat) (u : Value) : Blk (w.setCell ⟨g, i, none⟩ u) g t (cs.setIfInBounds i u) := by
  unfold Blk at h ⊢
  simp [World.setCell, Array.getElem?_modify, h]
theorem Blk.far (h : Blk w g t cs) {p : Addr} (hp : g ≠ p.block) (u : Value) : Blk (w.setCell p u) g t cs := (Below.heap_setCell w p u g hp).trans h
theorem Blk.below {B : Nat} (h : Blk w g t cs) (hb : Below B w w') (hg : g < B) : Blk w' g t cs := (hb.block g hg).trans h
theorem Blk.grown {row : Option Nat} (h : Blk w g t cs) (hb : w.grownBy w' row) (hg : some g ≠ row) : Blk w' g t cs := (hb.block g h.lt hg).trans h
theorem Blk.row {xs : List Value} (h : Blk w g t xs.toArray) : Row w (some ⟨g, 0, none⟩) xs := fun _ =>
  ⟨g, 0, rfl, h.lt, fun j x hx => by rw [Nat.zero_add, h.cell]; simpa using hx⟩
end
theorem U64_set (L : List Nat) (i x : Nat) : (U64 L).toArray.setIfInBounds i (.int .u64 (x : Int)) = (U64 (L.set i x)).toArray := by simp [U64, List.map_set]
theorem I64_set (L : List Nat) (i x : Nat) : (I64 L).toArray.setIfInBounds i (.int .i64 (x : Int)) = (I64 (L.set i x)).toArray := by simp [I64, List.map_set]
theorem U64_zeros (n : Nat) : madeCells #[.int .u64 0] n = (U64 (List.replicate n 0)).toArray := by
  apply Array.toList_inj.1
  rw [toList_madeCells_one]; simp [U64]
theorem I64_zeros (n : Nat) : madeCells #[.int .i64 0] n = (I64 (List.replicate n 0)).toArray := by
  apply Array.toList_inj.1
  rw [toList_madeCells_one]; simp [I64]
theorem Blk.getU {w : World} {g : Nat} {t : TypeId} {L : List Nat} (h : Blk w g t (U64 L).toArray) {i : Nat} (hi : i < L.length) : w.cell? ⟨g, i, none⟩ = some (.int .u64 ((L[i]?.getD 0 : Nat) : Int)) := by
  rw [h.cell]; simpa using U64_get hi
theorem Blk.getI {w : World} {g : Nat} {t : TypeId} {L : List Nat} (h : Blk w g t (I64 L).toArray) {i : Nat} (hi : i < L.length) : w.cell? ⟨g, i, none⟩ = some (.int .i64 ((L[i]?.getD 0 : Nat) : Int)) := by
  rw [h.cell]; simpa using I64_get hi
theorem Blk.setU {w : World} {g : Nat} {t : TypeId} {L : List Nat} (h : Blk w g t (U64 L).toArray) (i x : Nat) : Blk (w.setCell ⟨g, i, none⟩ (.int .u64 (x : Int))) g t (U64 (L.set i x)).toArray := by
  have := h.set_ i (.int .u64 (x : Int)); rwa [U64_set] at this
theorem Blk.setI {w : World} {g : Nat} {t : TypeId} {L : List Nat} (h : Blk w g t (I64 L).toArray) (i x : Nat) : Blk (w.setCell ⟨g, i, none⟩ (.int .i64 (x : Int))) g t (I64 (L.set i x)).toArray := by
  have := h.set_ i (.int .i64 (x : Int)); rwa [I64_set] at this

/-- The limbs of a number are the first ones of any limbs of it. -/
theorem toL_prefix {l : List Nat} (h : Sm l) : l.take (toL (val l)).length = toL (val l) := by
  induction l with
  | nil => simp [val, toL_zero]
  | cons x r ih =>
    by_cases h0 : val (x :: r) = 0
    · rw [h0, toL_zero]; rfl
    · have hx := h.head
      have e1 : val (x :: r) % B = x := by rw [val_cons, Nat.add_mul_mod_self_left, Nat.mod_eq_of_lt hx]
      have e2 : val (x :: r) / B = val r := by rw [val_cons, Nat.add_mul_div_left _ _ B_pos, Nat.div_eq_of_lt hx, Nat.zero_add]
      rw [toL_pos h0, e1, e2]
      simp [ih h.tail]
theorem toL_len_le_of {l : List Nat} (h : Sm l) : (toL (val l)).length ≤ l.length := toL_len_le (val_lt h)
theorem U64_take (l : List Nat) (k : Nat) : U64 (l.take k) = (U64 l).take k := by simp [U64, List.map_take]
theorem I64_take (l : List Nat) (k : Nat) : I64 (l.take k) = (I64 l).take k := by simp [I64, List.map_take]
theorem isNat_trim {w : World} {A : Option Addr} {l : List Nat} {m c : Nat} (h : Sm l) (hr : Row w A (U64 l)) (hc : l.length ≤ c) (hm : c ≤ maxLen) (e : val l = m) : IsNat w (.slice A (toL m).length c) m := by
  subst e
  refine ⟨A, c, rfl, Nat.le_trans (toL_len_le_of h) hc, hm, ?_⟩
  rw [← toL_prefix h, U64_take]; exact hr.take _
theorem isNatI_trim {w : World} {A : Option Addr} {l : List Nat} {m c : Nat} (h : Sm l) (hr : Row w A (I64 l)) (hc : l.length ≤ c) (hm : c ≤ maxLen) (e : val l = m) : IsNatI w (.slice A (toL m).length c) m := by
  subst e
  refine ⟨A, c, rfl, Nat.le_trans (toL_len_le_of h) hc, hm, ?_⟩
  rw [← toL_prefix h, I64_take]; exact hr.take _
theorem take_set_succ (l : List Nat) (k x : Nat) (hk : k < l.length) : (l.set k x).take (k + 1) = l.take k ++ [x] := by
  rw [List.take_succ_eq_append_getElem (by simpa using hk), List.take_set_of_le (Nat.le_refl _)]
  simp

/-- make([]uint64, n), make([]int, n) -/
theorem run_makeN {P : Program} {t e : TypeId} {i : TypeInfo} {z : Value} (ht : P.underlying t = some (.slice e)) (hi : P.info? e = some i) (hz : i.zero = some z) (hsz : i.size = 1) (hby : i.bytes = 8)
    {n : Nat} (hn : n ≤ 100000) {C : Int} (hC : C = (n : Int)) (w : World) :
    (Instr.makeSlice t (.int .i64 C) (.int .i64 C)).run P w = .ok (.slice (some ⟨w.heap.size, 0, none⟩) n n) (w.alloc (.cells (madeCells z.cells n) e)) := by
  subst hC
  have hb : (i.bytes : Int) * (n : Int) ≤ 281474976710656 := by rw [hby]; omega
  have hr := run_make (P := P) w t e i z ht hi hz .i64 .i64 n n (by omega) (by omega) hb (by omega)
  simp only [Int.toNat_natCast, hsz, Nat.mul_one] at hr
  exact hr

theorem int_eq {k : IntKind} {a b : Int} (h : a = b) : Value.int k a = Value.int k b := by rw [h]
theorem ret_eq {a b : Value} (h : a = b) : Ending.returned a = Ending.returned b := by rw [h]

end Go.Proofs.YtjoifmnolmimkaaGreatDoor
namespace Go.Proofs.YtjoifmnolmimkaaGreatDoor
open Go.RowKit

/-! ### a region that draws its order and only reads, within a round -/
section
variable {F : Fence} {n : Nat} {P : Program} {ops : Array Oper} {md : Region.Mode} {C : World → Prop}

def noDefer (o : Oper) : Bool := match o.op with | .defer _ => false | _ => true
theorem noDefer_spec {o : Oper} (h : noDefer o = true) : ∀ c, o.op ≠ .defer c := fun c e => by simp [noDefer, e] at h

/-- A quiet operation, in a round too: run as everywhere, from whatever world of the class. -/
theorem quiet_runs {o : Oper} {a : Act} {K : Act → Prop} {K' : Act → World → Prop} {Q' : Exit → Act → World → Prop} {w : World} (hd : noDefer o = true) (hw : C w) (hK : ∀ a w', C w' → K a → K' a w')
    (hh : o.quietIn F n P a C K) (ha : o.askedIn F P a C) : o.wpIn F n P a w K' Q' := by
  obtain ⟨v, hv, hn⟩ := hh
  have hrun := hv w hw
  rw [Oper.quietAtIn] at hrun
  rw [Oper.wpIn, Oper.semAt_eq _ _ _ (noDefer_spec hd)]
  refine ⟨ha w hw, ?_⟩
  revert hrun
  cases (execOp a.eval o).run P w with
  | halt x w' => exact fun h => h.elim
  | ok x w' =>
    cases x with
    | value u => rintro ⟨rfl, rfl⟩; exact hK _ _ hw hn
    | skip => rintro ⟨rfl, rfl⟩; exact hK _ _ hw hn
    | enter f args => rintro ⟨rfl, hdp, hc⟩; exact ⟨hdp, hc.mono fun e w'' h => by obtain ⟨rfl, h2⟩ := h; exact hK _ _ h2 hn⟩
    | _ => exact fun h => h.elim

theorem quiet_op_runs {i : Nat} {a : Act} {K : Act → Prop} {K' : Act → World → Prop} {Q' : Exit → Act → World → Prop} {w : World} (hd : ∀ o ∈ ops, noDefer o = true) (hw : C w) (hK : ∀ a w', C w' → K a → K' a w')
    (hh : qOpIn F n P ops C i K a) : wpOpIn F n P ops Q' i K' a w := by
  cases ho : ops[i]? with
  | none =>
    simp only [qOpIn, ho] at hh
    simp only [wpOpIn, ho]
    exact hK _ _ hw hh
  | some o =>
    simp only [qOpIn, ho] at hh
    simp only [wpOpIn, ho]
    by_cases hwant : Region.wanted o (yielded ops a.tmps) = true
    · rw [if_pos hwant] at hh ⊢
      exact quiet_runs (hd o (Array.mem_of_getElem? ho)) hw hK hh.2 hh.1
    · rw [if_neg hwant] at hh ⊢
      exact ⟨hh.1 w hw, hK _ _ hw hh.2⟩

theorem quiet_any_runs {Q : Act → Prop} {Q' : Exit → Act → World → Prop} (hd : ∀ o ∈ ops, noDefer o = true) (hQ : ∀ a w, C w → Q a → Q' .normal a w) (k : Nat) :
    ∀ (listed : Array Bool) (a : Act) (w : World), C w → wpAnyQIn F n P md ops C Q k listed a → wpAnyIn F n P md ops Q' k listed a w := by
  induction k with
  | zero => exact fun _ _ _ hw h => ⟨h.1, hQ _ _ hw h.2⟩
  | succ k ih => exact fun _ _ _ hw h => ⟨fun e => hQ _ _ hw (h.1 e), fun i hi => quiet_op_runs hd hw (fun a' w' hw' h' => ih _ a' w' hw' h') (h.2 i hi)⟩

/-- One walk in the text's order serves every order, in a round too. -/
theorem wpIn_quiet_round {id : Nat} {Q : Exit → Act → World → Prop} {a : Act} {w : World} {l : List Oper} (hm : P.follows .mixedOrders = true) (hB : Region.lexB .any l.toArray = true) (hd : l.all noDefer = true)
    (h : wpQuietIn F n P l.toArray (fun w' => ∃ n, w' = w.drewN n) (fun a' => ∀ w', (∃ n, w' = w.drewN n) → Q .normal a' w') l a) : (Code.region id l.toArray true).wpIn F n P Q a w := by
  simp only [Region.lexB, Bool.and_eq_true] at hB
  refine wpIn_region_any hm (quiet_any_runs (C := fun w' => ∃ n, w' = w.drewN n) (Q := fun a' => ∀ w', (∃ n, w' = w.drewN n) → Q .normal a' w')
    (fun o ho => List.all_eq_true.1 hd o (by simpa using ho)) (fun _ w' hw' h => h w' hw') _ _ _ _ ⟨1, rfl⟩ ?_)
  have := wpAnyQIn_lex (F := F) (n := n) (C := fun w' => ∃ n, w' = w.drewN n) (md := .any) hB.1 l 0 (Array.replicate l.toArray.size false) a (by simp) (by simpa using hB.2) h
  simpa using this

/-! ### the same, where the last operations wait for all others (a store, a call that writes): they come in the text's order -/

def ownEdges (k : Nat) (o : Oper) : Bool := o.after.all fun e => !Region.binds .any e || decide (e.on < k)
def waitsAll (k : Nat) (o : Oper) : Bool := (List.range k).all fun i => o.after.any fun e => Region.binds .any e && e.on == i
def guardBelow (k : Nat) (o : Oper) : Bool := match o.guard with | none => true | some (j, _) => decide (j < k)
def tailOk (H T : List Oper) : Bool :=
  (List.range H.length).all (fun j => match H[j]? with | none => true | some o => ownEdges j o && guardBelow H.length o) &&
  (List.range T.length).all (fun t => match T[t]? with | none => true | some o => ownEdges (H.length + t) o && waitsAll (H.length + t) o)

theorem ownEdges_spec {k : Nat} {o : Oper} (h : ownEdges k o = true) : ∀ e ∈ o.after, Region.binds .any e = true → e.on < k := by
  intro e he hb
  have := Array.all_eq_true_iff_forall_mem.1 h e he
  rw [hb] at this
  simpa using this
theorem waitsAll_spec {k : Nat} {o : Oper} (h : waitsAll k o = true) {i : Nat} (hi : i < k) : ∃ e ∈ o.after, Region.binds .any e = true ∧ e.on = i := by
  have := List.all_eq_true.1 h i (List.mem_range.2 hi)
  obtain ⟨e, he, h2⟩ := Array.any_eq_true'.1 this
  simp only [Bool.and_eq_true, beq_iff_eq] at h2
  exact ⟨e, he, h2⟩

section
variable {H T : List Oper}
theorem tailOk_head (h : tailOk H T = true) {j : Nat} {o : Oper} (hj : H[j]? = some o) : ownEdges j o = true ∧ guardBelow H.length o = true := by
  simp only [tailOk, Bool.and_eq_true] at h
  have hlt : j < H.length := (List.getElem?_eq_some_iff.1 hj).1
  have := List.all_eq_true.1 h.1 j (List.mem_range.2 hlt)
  simpa [hj] using this
theorem tailOk_tail (h : tailOk H T = true) {t : Nat} {o : Oper} (hj : T[t]? = some o) : ownEdges (H.length + t) o = true ∧ waitsAll (H.length + t) o = true := by
  simp only [tailOk, Bool.and_eq_true] at h
  have hlt : t < T.length := (List.getElem?_eq_some_iff.1 hj).1
  have := List.all_eq_true.1 h.2 t (List.mem_range.2 hlt)
  simpa [hj] using this

/-- The tail, when t of its operations have come. -/
theorem tail_runs (hok : tailOk H T = true) (Q : Exit → Act → World → Prop) : ∀ (g t : Nat) (L : Array Bool) (a : Act) (w : World), t + g = T.length → (∀ i, i < H.length + t → L.getD i false = true) → (∀ i, H.length + t ≤ i → i < (H ++ T).length → L.getD i true = false) → L.size = (H ++ T).length →
    wpListIn F n P (H ++ T).toArray Q (T.drop t) a w → wpAnyIn F n P .any (H ++ T).toArray Q g L a w := by
  intro g
  induction g with
  | zero =>
    intro t L a w ht h1 h2 hs h
    refine ⟨?_, ?_⟩
    · rw [List.eq_nil_iff_forall_not_mem]
      intro j hj
      obtain ⟨hj1, o, ho, _⟩ := mem_ready.1 hj
      have hlt : j < (H ++ T).length := by have := (Array.getElem?_eq_some_iff.1 ho).1; simpa using this
      have := h1 j (by simp at hlt; omega)
      simp only [Array.getD_eq_getD_getElem?] at this hj1
      cases hx : L[j]? with
      | none => rw [hx] at hj1; cases hj1
      | some b => rw [hx] at hj1 this; simp at hj1 this; rw [this] at hj1; cases hj1
    · rw [List.drop_of_length_le (by omega)] at h; exact h
  | succ g ih =>
    intro t L a w ht h1 h2 hs h
    have hlt : t < T.length := by omega
    have hop : ((H ++ T).toArray)[H.length + t]? = some T[t] := by simp [hlt]
    obtain ⟨q1, q2⟩ := tailOk_tail hok (t := t) (o := T[t]) (by simp [hlt])
    have hrd : H.length + t ∈ Region.ready .any (H ++ T).toArray L :=
      mem_ready.2 ⟨h2 _ (Nat.le_refl _) (by simp; omega), _, hop, fun e he hb => h1 _ (ownEdges_spec q1 e he hb)⟩
    refine ⟨fun e => (by rw [e] at hrd; cases hrd), fun j hj => ?_⟩
    obtain ⟨hj1, o, ho, hall⟩ := mem_ready.1 hj
    have hjlt : j < (H ++ T).length := by have := (Array.getElem?_eq_some_iff.1 ho).1; simpa using this
    have hje : j = H.length + t := by
      rcases Nat.lt_trichotomy j (H.length + t) with hl | he | hg
      · exfalso
        have := h1 j hl
        simp only [Array.getD_eq_getD_getElem?] at this hj1
        cases hx : L[j]? with
        | none => rw [hx] at hj1; cases hj1
        | some b => rw [hx] at hj1 this; simp at hj1 this; rw [this] at hj1; cases hj1
      · exact he
      · exfalso
        have ho' : T[j - H.length]? = some o := by
          rw [List.getElem?_toArray, List.getElem?_append_right (by omega)] at ho; exact ho
        obtain ⟨_, r2⟩ := tailOk_tail hok ho'
        obtain ⟨e, he, hb, hon⟩ := waitsAll_spec r2 (i := H.length + t) (by omega)
        have := hall e he hb
        rw [hon] at this
        have h3 := h2 (H.length + t) (Nat.le_refl _) (by simp; omega)
        simp only [Array.getD_eq_getD_getElem?] at this h3
        cases hx : L[H.length + t]? with
        | none => rw [hx] at h3; cases h3
        | some b => rw [hx] at h3 this; simp at h3 this; rw [this] at h3; cases h3
    subst hje
    have ho2 : o = T[t] := by rw [hop] at ho; exact (Option.some.inj ho).symm
    subst ho2
    rw [List.drop_eq_getElem_cons hlt] at h
    have next : ∀ a' w', wpListIn F n P (H ++ T).toArray Q (T.drop (t + 1)) a' w' → wpAnyIn F n P .any (H ++ T).toArray Q g (L.setIfInBounds (H.length + t) true) a' w' := fun a' w' h' => by
      refine ih (t + 1) _ a' w' (by omega) (fun i hi => ?_) (fun i hi hi2 => ?_) (by simp [hs]) h'
      · by_cases e : i = H.length + t
        · subst e
          simp only [Array.getD_eq_getD_getElem?]
          rw [Array.getElem?_setIfInBounds_self_of_lt (by rw [hs]; exact hjlt)]; rfl
        · exact getD_set_true (h1 i (by omega))
      · rw [getD_set_ne true (by omega)]; exact h2 i (by omega) hi2
    simp only [wpOpIn, hop]
    simp only [wpListIn] at h
    split
    · rename_i hw
      rw [if_pos hw] at h
      exact Oper.wpIn_mono (fun a' w' h' => next a' w' h') h
    · rename_i hw
      rw [if_neg hw] at h
      exact ⟨h.1, next _ _ h.2⟩

theorem wanted_head {H T : List Oper} {o : Oper} (hg : guardBelow H.length o = true) (tmps : Array Value) : Region.wanted o (yielded (H ++ T).toArray tmps) = Region.wanted o (yielded H.toArray tmps) := by
  unfold Region.wanted guardBelow at *
  cases hgd : o.guard with
  | none => rfl
  | some p =>
    obtain ⟨j, b⟩ := p
    rw [hgd] at hg
    simp only [decide_eq_true_eq] at hg
    have : ((H ++ T).toArray)[j]? = (H.toArray)[j]? := by simp [List.getElem?_append_left hg]
    simp [yielded, this]

/-- How many of the first k have not come. -/
def unlisted (k : Nat) (L : Array Bool) : Nat := ((List.range k).filter fun i => !L.getD i true).length
theorem unlisted_zero {k : Nat} {L : Array Bool} (h : unlisted k L = 0) (hs : k ≤ L.size) : ∀ i, i < k → L.getD i false = true := by
  intro i hi
  have h0 : (List.range k).filter (fun i => !L.getD i true) = [] := List.length_eq_zero_iff.1 h
  have := List.filter_eq_nil_iff.1 h0 i (List.mem_range.2 hi)
  simp only [Array.getD_eq_getD_getElem?] at this ⊢
  rw [Array.getElem?_eq_getElem (by omega)] at this ⊢
  simpa using this
theorem unlisted_set {k : Nat} {L : Array Bool} {i : Nat} (hi : i < k) (hs : k ≤ L.size) (hu : L.getD i true = false) : unlisted k (L.setIfInBounds i true) + 1 = unlisted k L := by
  have key : ∀ (l : List Nat), l.Nodup → i ∈ l → (l.filter fun j => !(L.setIfInBounds i true).getD j true).length + 1 = (l.filter fun j => !L.getD j true).length := by
    intro l
    induction l with
    | nil => intro _ h; cases h
    | cons x r ih =>
      intro hn hm
      rw [List.nodup_cons] at hn
      by_cases hx : x = i
      · subst hx
        have e1 : (L.setIfInBounds x true).getD x true = true := by
          simp only [Array.getD_eq_getD_getElem?]
          rw [Array.getElem?_setIfInBounds_self_of_lt (by omega)]; rfl
        have e2 : r.filter (fun j => !(L.setIfInBounds x true).getD j true) = r.filter (fun j => !L.getD j true) := by
          refine List.filter_congr fun j hj => ?_
          rw [getD_set_ne true (fun e => hn.1 (by rw [e]; exact hj))]
        rw [List.filter_cons, List.filter_cons, e1, hu, e2]
        simp
      · have hm' : i ∈ r := by
          rcases List.mem_cons.1 hm with h | h
          · exact absurd h.symm hx
          · exact h
        have e1 : (L.setIfInBounds i true).getD x true = L.getD x true := getD_set_ne true (Ne.symm hx)
        have := ih hn.2 hm'
        rw [List.filter_cons, List.filter_cons, e1]
        split
        · simp only [List.length_cons]; omega
        · exact this
  exact key _ List.nodup_range (List.mem_range.2 hi)

section
variable {H T : List Oper}
/-- The heads, in whatever order, and the tail behind them. -/
theorem heads_run (hok : tailOk H T = true) (hd : ∀ o ∈ H, noDefer o = true) (Q : Exit → Act → World → Prop) : ∀ (k : Nat) (LH L : Array Bool) (a : Act) (w : World), C w → unlisted H.length LH = k →
    LH.size = H.length → L.size = (H ++ T).length → (∀ i, i < H.length → L[i]? = LH[i]?) → (∀ i, H.length ≤ i → i < (H ++ T).length → L.getD i true = false) →
    wpAnyQIn F n P .any H.toArray C (fun a' => ∀ w', C w' → wpListIn F n P (H ++ T).toArray Q T a' w') k LH a →
    wpAnyIn F n P .any (H ++ T).toArray Q (k + T.length) L a w := by
  intro k
  have sync : ∀ {LH L : Array Bool} (d : Bool), (∀ i, i < H.length → L[i]? = LH[i]?) → ∀ i, i < H.length → L.getD i d = LH.getD i d := fun d h i hi => by
    simp only [Array.getD_eq_getD_getElem?, h i hi]
  induction k with
  | zero =>
    intro LH L a w hC hu hs1 hs2 hsy htl h
    rw [Nat.zero_add]
    refine tail_runs hok Q T.length 0 L a w (by omega) (fun i hi => ?_) (fun i hi hi2 => htl i (by omega) hi2) hs2 ?_
    · rw [sync false hsy i (by omega)]; exact unlisted_zero hu (by omega) i (by omega)
    · rw [List.drop_zero]; exact h.2 w hC
  | succ k ih =>
    intro LH L a w hC hu hs1 hs2 hsy htl h
    -- some head is not listed: the least one is ready
    have hne : ∃ i, i < H.length ∧ LH.getD i true = false := by
      have hpos : 0 < ((List.range H.length).filter fun i => !LH.getD i true).length := by have := hu; unfold unlisted at this; omega
      obtain ⟨i, hi⟩ := List.exists_mem_of_length_pos hpos
      obtain ⟨h1, h2⟩ := List.mem_filter.1 hi
      exact ⟨i, List.mem_range.1 h1, by simpa using h2⟩
    obtain ⟨i0, ⟨hi0, hu0⟩, hmin⟩ := exists_least (p := fun i => i < H.length ∧ LH.getD i true = false) hne
    have hready0 : i0 ∈ Region.ready .any (H ++ T).toArray L := by
      have hop : ((H ++ T).toArray)[i0]? = some H[i0] := by simp [List.getElem?_append_left hi0, hi0]
      refine mem_ready.2 ⟨by rw [sync true hsy i0 hi0]; exact hu0, _, hop, fun e he hb => ?_⟩
      have hlt := ownEdges_spec (tailOk_head hok (j := i0) (o := H[i0]) (by simp [hi0])).1 e he hb
      rw [sync false hsy _ (by omega)]
      have hnot : ¬ LH.getD e.on true = false := fun hh => by have := hmin e.on ⟨by omega, hh⟩; omega
      simp only [Array.getD_eq_getD_getElem?] at hnot ⊢
      rw [Array.getElem?_eq_getElem (by omega)] at hnot ⊢
      simpa using hnot
    rw [show k + 1 + T.length = (k + T.length) + 1 by omega]
    refine ⟨fun e => (by rw [e] at hready0; cases hready0), fun j hj => ?_⟩
    obtain ⟨hj1, o, ho, hall⟩ := mem_ready.1 hj
    have hjh : j < H.length := by
      rcases Nat.lt_or_ge j H.length with hl | hge
      · exact hl
      · exfalso
        have ho' : T[j - H.length]? = some o := by
          rw [List.getElem?_toArray, List.getElem?_append_right hge] at ho; exact ho
        obtain ⟨e, he, hb, hon⟩ := waitsAll_spec (tailOk_tail hok ho').2 (i := i0) (by omega)
        have := hall e he hb
        rw [hon, sync false hsy _ hi0] at this
        simp only [Array.getD_eq_getD_getElem?] at this hu0
        rw [Array.getElem?_eq_getElem (by omega)] at this hu0
        simp at this hu0
        rw [this] at hu0; cases hu0
    have hoH : H[j]? = some o := by rw [List.getElem?_toArray, List.getElem?_append_left hjh] at ho; exact ho
    have hjr : j ∈ Region.ready .any H.toArray LH := by
      refine mem_ready.2 ⟨by rw [← sync true hsy j hjh]; exact hj1, o, by simpa using hoH, fun e he hb => ?_⟩
      have hlt := ownEdges_spec (tailOk_head hok hoH).1 e he hb
      rw [← sync false hsy _ (by omega)]; exact hall e he hb
    have hq := h.2 j hjr
    have hujt : LH.getD j true = false := by rw [← sync true hsy j hjh]; exact hj1
    have hnext : ∀ a' w', C w' → wpAnyQIn F n P .any H.toArray C (fun a' => ∀ w', C w' → wpListIn F n P (H ++ T).toArray Q T a' w') k (LH.setIfInBounds j true) a' →
        wpAnyIn F n P .any (H ++ T).toArray Q (k + T.length) (L.setIfInBounds j true) a' w' := fun a' w' hC' h' => by
      refine ih _ _ a' w' hC' (by have := unlisted_set hjh (by omega) hujt; omega) (by simpa using hs1) (by simpa using hs2) (fun i hi => ?_) (fun i hi hi2 => ?_) h'
      · by_cases e : j = i
        · subst e
          rw [Array.getElem?_setIfInBounds_self_of_lt (by rw [hs2]; simp; omega), Array.getElem?_setIfInBounds_self_of_lt (by omega)]
        · rw [Array.getElem?_setIfInBounds_ne e, Array.getElem?_setIfInBounds_ne e]; exact hsy i hi
      · rw [getD_set_ne true (by omega)]; exact htl i hi hi2
    have hq' : qOpIn F n P (H ++ T).toArray C j (wpAnyQIn F n P .any H.toArray C (fun a' => ∀ w', C w' → wpListIn F n P (H ++ T).toArray Q T a' w') k (LH.setIfInBounds j true)) a := by
      unfold qOpIn at hq ⊢
      rw [List.getElem?_toArray, hoH] at hq
      rw [ho]
      dsimp only at hq ⊢
      rw [wanted_head (tailOk_head hok hoH).2]
      exact hq
    unfold qOpIn at hq'
    unfold wpOpIn
    rw [ho] at hq' ⊢
    dsimp only at hq' ⊢
    by_cases hw : Region.wanted o (yielded (H ++ T).toArray a.tmps) = true
    · rw [if_pos hw] at hq' ⊢
      exact quiet_runs (hd o (List.mem_of_getElem? hoH)) hC (fun a' w' hC' h' => hnext a' w' hC' h') hq'.2 hq'.1
    · rw [if_neg hw] at hq' ⊢
      exact ⟨hq'.1 w hC, hnext _ _ hC hq'.2⟩

/-- The heads only read and call quietly; the tail waits for all of them. -/
theorem wpIn_head_tail {id : Nat} {Q : Exit → Act → World → Prop} {a : Act} {w : World} {ops : List Oper} (k : Nat) (hm : P.follows .mixedOrders = true)
    (hB : Region.lexB .any (ops.take k).toArray = true) (hd : (ops.take k).all noDefer = true) (hok : tailOk (ops.take k) (ops.drop k) = true)
    (h : wpQuietIn F n P (ops.take k).toArray (fun w' => ∃ m, w' = w.drewN m) (fun a' => ∀ w', (∃ m, w' = w.drewN m) → wpListIn F n P ops.toArray Q (ops.drop k) a' w') (ops.take k) a) :
    (Code.region id ops.toArray true).wpIn F n P Q a w := by
  simp only [Region.lexB, Bool.and_eq_true] at hB
  have e : ops.take k ++ ops.drop k = ops := List.take_append_drop k ops
  refine wpIn_region_any hm ?_
  have hq := wpAnyQIn_lex (F := F) (n := n) (C := fun w' => ∃ m, w' = w.drewN m) (md := .any) hB.1 (ops.take k) 0 (Array.replicate (ops.take k).toArray.size false) a (by simp) (by simpa using hB.2) h
  have hrun := heads_run (F := F) (n := n) (P := P) (C := fun w' => ∃ m, w' = w.drewN m) (H := ops.take k) (T := ops.drop k) hok (fun o ho => List.all_eq_true.1 hd o ho) Q (ops.take k).length
    (Array.replicate (ops.take k).length false) (Array.replicate ops.length false) a { w with drawn := w.drawn + 1 } ⟨1, rfl⟩ ?_ (by simp) (by simp) ?_ ?_ ?_
  · have e2 : (ops.take k).length + (ops.drop k).length = ops.length := by rw [← List.length_append, e]
    rw [e, e2] at hrun
    simpa using hrun
  · unfold unlisted
    rw [List.filter_eq_self.2 (fun i hi => ?_), List.length_range]
    have := List.mem_range.1 hi
    simp only [Array.getD_eq_getD_getElem?]
    rw [Array.getElem?_replicate, if_pos this]; rfl
  · intro i hi
    have : i < ops.length := by rw [List.length_take] at hi; omega
    rw [Array.getElem?_replicate, Array.getElem?_replicate, if_pos hi, if_pos this]
  · intro i hi hi2
    rw [e] at hi2
    simp only [Array.getD_eq_getD_getElem?]
    rw [Array.getElem?_replicate, if_pos hi2]; rfl
  · rw [e]; simpa using hq
end
end
end

/-! ### reads that may come among the others, whose number and kind is free; the others come in the text's order -/
section
variable {F : Fence} {n : Nat} {P : Program} {C : World → Prop}

/-- A read without a guard. -/
def plainRead (o : Oper) : Bool := o.guard.isNone && match o.op with
  | .move _ => true | .assign _ => true | .load _ _ => true | .binOp _ _ _ _ _ => true | .indexAddr _ _ _ => true | .fieldAddr _ _ _ => true | _ => false
theorem plainRead_noDefer {o : Oper} (h : plainRead o = true) : noDefer o = true := by
  simp only [plainRead, Bool.and_eq_true] at h
  obtain ⟨_, h⟩ := h
  unfold noDefer
  split <;> simp_all
theorem plainRead_want {o : Oper} (h : plainRead o = true) (y : Nat → Option Bool) : Region.wanted o y = true := by
  simp only [plainRead, Bool.and_eq_true, Option.isNone_iff_eq_none] at h
  simp [Region.wanted, h.1]
theorem value_of_bind {s : Sem Value} {w w' : World} {x : Next} (h : (do pure (.value (← s)) : Sem Next).run P w = .ok x w') : ∃ u, x = .value u := by
  simp only [Sem.run_bind] at h
  cases hs : s.run P w with
  | ok u w1 => rw [hs] at h; simp [Result.andThen, Sem.run_pure] at h; exact ⟨u, h.1.symm⟩
  | halt e w1 => rw [hs] at h; simp [Result.andThen] at h
theorem plainRead_value {o : Oper} (h : plainRead o = true) {ρ : Operand → Value} {w w' : World} {x : Next} (hr : (execOp ρ o).run P w = .ok x w') : ∃ u, x = .value u := by
  simp only [plainRead, Bool.and_eq_true] at h
  obtain ⟨_, h⟩ := h
  unfold execOp at hr
  split at h
  · rename_i e; rw [e] at hr; simp [Sem.run_pure] at hr; exact ⟨_, hr.1.symm⟩
  · rename_i e; rw [e] at hr; simp [Sem.run_pure] at hr; exact ⟨_, hr.1.symm⟩
  · rename_i e; rw [e] at hr; exact value_of_bind hr
  · rename_i e; rw [e] at hr; exact value_of_bind hr
  · rename_i e; rw [e] at hr; exact value_of_bind hr
  · rename_i e; rw [e] at hr; exact value_of_bind hr
  · cases h

/-- A read, quiet in a class, runs from whatever world of the class, and leaves that very world. -/
theorem read_runs {o : Oper} {a : Act} {K : Act → Prop} {K' : Act → World → Prop} {Q : Exit → Act → World → Prop} {w : World} (hp : plainRead o = true) (hw : C w) (hK : ∀ a, K a → K' a w)
    (hh : o.quietIn F n P a C K) (ha : o.askedIn F P a C) : o.wpIn F n P a w K' Q := by
  obtain ⟨v, hv, hn⟩ := hh
  have hrun := hv w hw
  rw [Oper.quietAtIn] at hrun
  rw [Oper.wpIn, Oper.semAt_eq _ _ _ (noDefer_spec (plainRead_noDefer hp))]
  refine ⟨ha w hw, ?_⟩
  have hval := fun x w' => plainRead_value (P := P) (ρ := a.eval) (w := w) (w' := w') (x := x) hp
  revert hrun hval
  cases (execOp a.eval o).run P w with
  | halt x w' => exact fun h _ => h.elim
  | ok x w' =>
    intro hrun hval
    obtain ⟨u, rfl⟩ := hval x w' rfl
    obtain ⟨rfl, rfl⟩ := hrun
    exact hK _ hn

def readsNot (H : List Oper) (o : Oper) : Bool := (List.range H.length).all fun i => match H[i]? with
  | none => true
  | some h => o.after.any (fun e => Region.binds .any e && e.on == i) || (match h.dst with | none => true | some d => !(o.op.operands.toList.filterMap fun | .tmp t => some t | _ => none).contains d)
section
variable {x : Oper} {H T : List Oper}
theorem readsNot_spec (h : readsNot H x = true) {i : Nat} {o : Oper} (hi : H[i]? = some o) : (∃ e ∈ x.after, Region.binds .any e = true ∧ e.on = i) ∨ ∀ d, o.dst = some d → (x.op.operands.toList.filterMap fun | .tmp t => some t | _ => none).contains d = false := by
  have hlt : i < H.length := (List.getElem?_eq_some_iff.1 hi).1
  have := List.all_eq_true.1 h i (List.mem_range.2 hlt)
  rw [hi] at this
  simp only [Bool.or_eq_true] at this
  rcases this with h | h
  · obtain ⟨e, he, h2⟩ := Array.any_eq_true'.1 h
    simp only [Bool.and_eq_true, beq_iff_eq] at h2
    exact .inl ⟨e, he, h2⟩
  · refine .inr fun d hd => ?_
    rw [hd] at h
    simpa using h


def noSel (o : Oper) : Bool := match o.op with | .select _ _ => false | _ => true
/-- No operation of H has this destination, but for those that 'o' waits for. -/
def dstFar (H : List Oper) (d : Option Tmp) : Bool := match d with
  | none => true
  | some d => H.all fun h => !(h.op.operands.toList.filterMap fun | .tmp t => some t | _ => none).contains d && h.dst != some d
def floatsOk (H T : List Oper) : Bool :=
  (List.range H.length).all (fun j => match H[j]? with | none => true | some o => plainRead o && ownEdges j o && readsNot H o && (H.drop (j + 1)).all fun h => h.dst.isNone || h.dst != o.dst) &&
  (List.range T.length).all (fun t => match T[t]? with
    | none => true
    | some o => o.guard.isNone && noDefer o && noSel o && ownEdges (H.length + t) o && readsNot H o && dstFar H o.dst && (t == 0 || o.after.any fun e => Region.binds .any e && e.on == H.length + (t - 1))
      && (decide (t + 1 < T.length) || waitsAll (H.length + t) o))

structure HeadOk (H : List Oper) (j : Nat) (o : Oper) : Prop where
  read : plainRead o = true
  edges : ownEdges j o = true
  far : readsNot H o = true
  dst : ∀ i o', j < i → H[i]? = some o' → o'.dst = none ∨ o'.dst ≠ o.dst
structure TailOk (H T : List Oper) (t : Nat) (o : Oper) : Prop where
  guard : o.guard = none
  noDefer : noDefer o = true
  noSel : noSel o = true
  edges : ownEdges (H.length + t) o = true
  far : readsNot H o = true
  dst : dstFar H o.dst = true
  chain : 0 < t → ∃ e ∈ o.after, Region.binds .any e = true ∧ e.on = H.length + (t - 1)
  last : t + 1 = T.length → waitsAll (H.length + t) o = true

theorem floats_head (h : floatsOk H T = true) {j : Nat} {o : Oper} (hj : H[j]? = some o) : HeadOk H j o := by
  simp only [floatsOk, Bool.and_eq_true] at h
  have hlt : j < H.length := (List.getElem?_eq_some_iff.1 hj).1
  have h2 := List.all_eq_true.1 h.1 j (List.mem_range.2 hlt)
  rw [hj] at h2
  simp only [Bool.and_eq_true] at h2
  obtain ⟨⟨⟨h3, h4⟩, h5⟩, h6⟩ := h2
  refine ⟨h3, h4, h5, fun i o' hi ho => ?_⟩
  have hm : o' ∈ H.drop (j + 1) := by
    have : (H.drop (j + 1))[i - (j + 1)]? = some o' := by rw [List.getElem?_drop, show j + 1 + (i - (j + 1)) = i by omega]; exact ho
    exact List.mem_of_getElem? this
  have := List.all_eq_true.1 h6 o' hm
  simp only [Bool.or_eq_true, Option.isNone_iff_eq_none, bne_iff_ne] at this
  exact this
theorem floats_tail (h : floatsOk H T = true) {t : Nat} {o : Oper} (hj : T[t]? = some o) : TailOk H T t o := by
  simp only [floatsOk, Bool.and_eq_true] at h
  have hlt : t < T.length := (List.getElem?_eq_some_iff.1 hj).1
  have h2 := List.all_eq_true.1 h.2 t (List.mem_range.2 hlt)
  rw [hj] at h2
  simp only [Bool.and_eq_true, Option.isNone_iff_eq_none] at h2
  obtain ⟨⟨⟨⟨⟨⟨⟨h3, h4⟩, h5⟩, h6⟩, h7⟩, h8⟩, h9⟩, h10⟩ := h2
  refine ⟨h3, h4, h5, h6, h7, h8, fun hs => ?_, fun hl => ?_⟩
  · simp only [Bool.or_eq_true, beq_iff_eq] at h9
    rcases h9 with h9 | h9
    · omega
    · obtain ⟨e, he, h2⟩ := Array.any_eq_true'.1 h9
      simp only [Bool.and_eq_true, beq_iff_eq] at h2
      exact ⟨e, he, h2⟩
  · simp only [Bool.or_eq_true, decide_eq_true_eq] at h10
    rcases h10 with h | h
    · omega
    · exact h

/-- 'a' is 'b', but for the slots of the heads that have not come. -/
structure Lacks (H : List Oper) (S : Nat → Prop) (a b : Act) : Prop where
  defers : a.defers = b.defers
  size : a.tmps.size = b.tmps.size
  same : ∀ s : Nat, (∀ i o, S i → H[i]? = some o → o.dst ≠ some s) → a.tmps[s]? = b.tmps[s]?

theorem Lacks.full {S : Nat → Prop} {a b : Act} (h : Lacks H S a b) (hS : ∀ i, i < H.length → ¬ S i) : a = b := by
  have ht : a.tmps = b.tmps := Array.ext_getElem? fun s => h.same s fun i o hi ho _ => hS i (List.getElem?_eq_some_iff.1 ho).1 hi
  obtain ⟨t, d⟩ := a
  obtain ⟨t', d'⟩ := b
  cases ht
  cases h.defers
  rfl
theorem Lacks.eval {S : Nat → Prop} {a b : Act} {o : Oper} (h : Lacks H S a b) (ho : ∀ i h', S i → H[i]? = some h' → ∀ d, h'.dst = some d → (o.op.operands.toList.filterMap fun | .tmp t => some t | _ => none).contains d = false) :
    ∀ x ∈ o.op.operands, a.eval x = b.eval x := by
  intro x hx
  cases x with
  | tmp t =>
    have := h.same t fun i h' hi hh hd => by
      have := ho i h' hi hh t hd
      rw [List.contains_eq_mem] at this
      simp only [decide_eq_false_iff_not] at this
      exact this (List.mem_filterMap.2 ⟨.tmp t, by simpa using hx, rfl⟩)
    simp only [Act.eval, Array.getD_eq_getD_getElem?, this]
  | const v => rfl
  | global g => rfl
  | func f => rfl
theorem put_get (a : Act) (d : Tmp) (v : Value) (s : Nat) : (a.put (some d) v).tmps[s]? = if d = s ∧ d < a.tmps.size then some v else a.tmps[s]? := by
  simp only [Act.put]
  rw [Array.getElem?_setIfInBounds]
  by_cases h1 : d = s
  · subst h1
    by_cases h2 : d < a.tmps.size
    · simp [h2]
    · simp only [h2, if_true, if_false, and_false]
      rw [Array.getElem?_eq_none (Nat.le_of_not_lt h2)]
  · simp [h1]
theorem put_size (a : Act) (d : Option Tmp) (v : Value) : (a.put d v).tmps.size = a.tmps.size := by cases d <;> simp [Act.put]
theorem put_defers (a : Act) (d : Option Tmp) (v : Value) : (a.put d v).defers = a.defers := by cases d <;> rfl
theorem Lacks.head {S S' : Nat → Prop} {a b : Act} {i : Nat} {o : Oper} {v : Value} (h : Lacks H S a b) (hi : H[i]? = some o) (hb : b.put o.dst v = b) (hS : ∀ j, S j → j = i ∨ S' j) : Lacks H S' (a.put o.dst v) b := by
  refine ⟨(put_defers _ _ _).trans h.defers, (put_size _ _ _).trans h.size, fun s hs => ?_⟩
  cases hd : o.dst with
  | none =>
    refine h.same s fun j o' hj ho' e => ?_
    rcases hS j hj with rfl | hj'
    · rw [hi] at ho'; cases ho'; rw [hd] at e; cases e
    · exact hs j o' hj' ho' e
  | some d =>
    rw [put_get]
    rw [hd] at hb
    by_cases hds : d = s
    · subst hds
      by_cases hlt : d < a.tmps.size
      · have : (b.put (some d) v).tmps[d]? = some v := by rw [put_get, if_pos ⟨rfl, by rw [← h.size]; exact hlt⟩]
        rw [if_pos ⟨rfl, hlt⟩, ← this, hb]
      · rw [if_neg (fun h => hlt h.2), Array.getElem?_eq_none (Nat.le_of_not_lt hlt), Array.getElem?_eq_none (by rw [← h.size]; exact Nat.le_of_not_lt hlt)]
    · rw [if_neg (fun h => hds h.1)]
      refine h.same s fun j o' hj ho' e => ?_
      rcases hS j hj with rfl | hj'
      · rw [hi] at ho'; cases ho'; rw [hd] at e; cases e; exact hds rfl
      · exact hs j o' hj' ho' e
theorem Lacks.tail {S : Nat → Prop} {a b : Act} (h : Lacks H S a b) (d : Option Tmp) (v : Value) : Lacks H S (a.put d v) (b.put d v) := by
  refine ⟨by rw [put_defers, put_defers]; exact h.defers, by rw [put_size, put_size]; exact h.size, fun s hs => ?_⟩
  cases d with
  | none => exact h.same s hs
  | some d => rw [put_get, put_get, h.size, h.same s hs]

/-- What the heads read, at the frame that holds all that they read. -/
def HeadsAt (F : Fence) (n : Nat) (P : Program) (C : World → Prop) (H : List Oper) (b : Act) : Prop :=
  ∀ (i : Nat) (o : Oper), H[i]? = some o → o.askedIn F P b C ∧ ∃ v, b.put o.dst v = b ∧ ∀ w, C w → o.quietAtIn F n P b C w v

theorem sel_of {o : Oper} (h : noSel o = true) : ∀ cs b, o.op ≠ .select cs b := fun cs b e => by simp [noSel, e] at h
theorem read_sel {o : Oper} (h : plainRead o = true) : ∀ cs b, o.op ≠ .select cs b := fun cs b e => by simp [plainRead, e] at h

theorem quietAt_of {o : Oper} {a b : Act} (hs : ∀ cs b, o.op ≠ .select cs b) (h : ∀ x ∈ o.op.operands, a.eval x = b.eval x) : execOp a.eval o = execOp b.eval o ∧ ∀ w, o.about P w a.eval = o.about P w b.eval :=
  ⟨execOp_congr o hs h, fun w => about_congr o w h⟩

theorem operands_far {o : Oper} {a : Act} {d : Option Tmp} {v : Value} (h : ∀ e, d = some e → (o.op.operands.toList.filterMap fun | .tmp t => some t | _ => none).contains e = false) : ∀ x ∈ o.op.operands, (a.put d v).eval x = a.eval x := fun x hx => Act.eval_put fun e he hxe => by
  subst hxe
  have := h e he
  rw [List.contains_eq_mem] at this
  simp only [decide_eq_false_iff_not] at this
  exact this (List.mem_filterMap.2 ⟨.tmp e, by simpa using hx, rfl⟩)

theorem put_put_same (a : Act) (d : Option Tmp) (v : Value) : (a.put d v).put d v = a.put d v := by
  cases d with
  | none => rfl
  | some d => simp [Act.put]

theorem readsNot_far {o : Oper} (h : readsNot H o = true) {k i : Nat} (he : ownEdges k o = true) {h' : Oper} (hi : H[i]? = some h') (hk : k ≤ i) : ∀ d, h'.dst = some d → (o.op.operands.toList.filterMap fun | .tmp t => some t | _ => none).contains d = false := by
  rcases readsNot_spec h hi with ⟨e, hee, hb, hon⟩ | h
  · have := ownEdges_spec he e hee hb; omega
  · exact h

/-- The lexical walk of the heads comes to a frame that holds all that they read. -/
theorem heads_frame (hok : floatsOk H T = true) (Q' : Act → Prop) : ∀ (l : List Oper) (k : Nat) (a : Act), H.drop k = l → k ≤ H.length → wpQuietIn F n P H.toArray C Q' l a →
    ∃ b, Q' b ∧ Lacks H (fun i => k ≤ i) a b ∧ (∀ i o, k ≤ i → H[i]? = some o → o.askedIn F P b C ∧ ∃ v, b.put o.dst v = b ∧ ∀ w, C w → o.quietAtIn F n P b C w v) ∧
      (∀ s, (∀ i o, k ≤ i → H[i]? = some o → o.dst ≠ some s) → b.tmps[s]? = a.tmps[s]?) := by
  intro l
  induction l with
  | nil =>
    intro k a hl hk h
    have hkl : H.length ≤ k := by have := congrArg List.length hl; rw [List.length_drop] at this; simp at this; omega
    refine ⟨a, h, ⟨rfl, rfl, fun _ _ => rfl⟩, fun i o hi ho => ?_, fun _ _ => rfl⟩
    have := (List.getElem?_eq_some_iff.1 ho).1
    omega
  | cons o l ih =>
    intro k a hl hk h
    have hklt : k < H.length := by have := congrArg List.length hl; rw [List.length_drop] at this; simp at this; omega
    have ho : H[k]? = some o := by
      have := congrArg (fun l => l[0]?) hl
      simpa using this
    have hH := floats_head hok ho
    obtain ⟨hask, h⟩ := h
    rw [if_pos (plainRead_want hH.read _)] at h
    obtain ⟨v, hv, h⟩ := h
    obtain ⟨b, q1, q2, q3, q4⟩ := ih (k + 1) (a.put o.dst v) (by rw [← List.drop_drop, hl]; rfl) (by omega) h
    have hbd : b.put o.dst v = b := by
      cases hd : o.dst with
      | none => rfl
      | some d =>
        have hb := q4 d fun i o' hi ho' e => by
          rcases hH.dst i o' (by omega) ho' with h | h
          · rw [h] at e; cases e
          · rw [hd] at h; exact h e
        rw [hd, put_get] at hb
        have hsz : b.tmps.size = a.tmps.size := q2.size.symm.trans (put_size _ _ _)
        have : (b.put (some d) v).tmps = b.tmps := by
          refine Array.ext_getElem? fun s => ?_
          rw [put_get]
          by_cases hds : d = s ∧ d < b.tmps.size
          · rw [if_pos hds, ← hds.1, hb, if_pos ⟨rfl, by rw [← hsz]; exact hds.2⟩]
          · rw [if_neg hds]
        obtain ⟨bt, bd⟩ := b
        simp only [Act.put] at this ⊢
        rw [this]
    have hev : ∀ x ∈ o.op.operands, a.eval x = b.eval x := by
      intro x hx
      refine (operands_far (a := a) (v := v) (fun e he => readsNot_far hH.far hH.edges ho (Nat.le_refl _) e he) x hx).symm.trans ?_
      exact q2.eval (fun i h' hi hh d hd => readsNot_far hH.far hH.edges hh (by omega) d hd) x hx
    obtain ⟨e1, e2⟩ := quietAt_of (P := P) (read_sel hH.read) hev
    refine ⟨b, q1, ⟨(put_defers _ _ _).symm.trans q2.defers, (put_size _ _ _).symm.trans q2.size, fun s hs => ?_⟩, fun i o' hi ho' => ?_, fun s hs => ?_⟩
    · rw [q4 s fun i o' hi => hs i o' (by omega)]
      cases hd : o.dst with
      | none => rfl
      | some d => rw [put_get, if_neg (fun h => hs k o (Nat.le_refl _) ho (by rw [hd, h.1]))]
    · rcases Nat.eq_or_lt_of_le hi with rfl | hlt
      · rw [ho] at ho'
        cases ho'
        refine ⟨fun w hw f hf => hask w hw f (by rw [e2]; exact hf), v, hbd, fun w hw => ?_⟩
        have := hv w hw
        unfold Oper.quietAtIn at this ⊢
        rw [← e1]
        exact this
      · exact q3 i o' hlt ho'
    · rw [q4 s fun i o' hi => hs i o' (by omega)]
      cases hd : o.dst with
      | none => rfl
      | some d => rw [put_get, if_neg (fun h => hs k o (Nat.le_refl _) ho (by rw [hd, h.1]))]

/-- The others, one by one: behind each but the last the world is one of the class. -/
def wpTailIn (F : Fence) (n : Nat) (P : Program) (ops : Array Oper) (C : World → Prop) (Q' : Act → World → Prop) : List Oper → Act → World → Prop
  | [], a, w => Q' a w
  | o :: rest, a, w => wpListIn F n P ops (fun e a' w' => e = .normal ∧ (rest ≠ [] → C w') ∧ wpTailIn F n P ops C Q' rest a' w') [o] a w

/-- What is asked behind one of them. -/
def TailPost (F : Fence) (n : Nat) (P : Program) (ops : Array Oper) (C : World → Prop) (Q' : Act → World → Prop) (rest : List Oper) : Exit → Act → World → Prop := fun e a w => e = .normal ∧ (rest ≠ [] → C w) ∧ wpTailIn F n P ops C Q' rest a w
theorem tail_step {ops : Array Oper} {Q' : Act → World → Prop} {rest : List Oper} {o : Oper} {a : Act} {w : World} (h : wpListIn F n P ops (TailPost F n P ops C Q' rest) [o] a w) : wpTailIn F n P ops C Q' (o :: rest) a w := h
theorem tail_post {ops : Array Oper} {Q' : Act → World → Prop} {rest : List Oper} {a : Act} {w : World} (hC : C w) (h : wpTailIn F n P ops C Q' rest a w) : TailPost F n P ops C Q' rest .normal a w := ⟨rfl, fun _ => hC, h⟩
theorem tail_last {ops : Array Oper} {Q' : Act → World → Prop} {a : Act} {w : World} (h : Q' a w) : TailPost F n P ops C Q' [] .normal a w := ⟨rfl, fun h => absurd rfl h, h⟩

/-- A later world: what lay before lies as it did. -/
structure LaterD (w : World) where
  W : World
  h : Below w.heap.size w W
instance (w : World) : Nonempty (LaterD w) := ⟨⟨w, Below.refl _ _⟩⟩
/-- A world in which some blocks lie as they did. -/
structure SameAt (w : World) (S : Nat → Prop) where
  W : World
  h : ∀ k, S k → W.heap[k]? = w.heap[k]?
instance (w : World) (S : Nat → Prop) : Nonempty (SameAt w S) := ⟨⟨w, fun _ _ => rfl⟩⟩
theorem SameAt.cell {w : World} {S : Nat → Prop} (x : SameAt w S) {b o : Nat} (hb : S b) {v : Value} (h : w.cell? ⟨b, o, none⟩ = some v) : x.W.cell? ⟨b, o, none⟩ = some v := by
  simpa only [World.cell?, x.h b hb] using h
def IsSame (w : World) (S : Nat → Prop) (W : World) : Prop := ∃ x : SameAt w S, W = x.W
theorem isSame_of {w W : World} {S : Nat → Prop} (h : ∀ k, S k → W.heap[k]? = w.heap[k]?) : IsSame w S W := ⟨⟨W, h⟩, rfl⟩
theorem isSame_below {w W : World} {S : Nat → Prop} {n : Nat} (h : Below n w W) (hS : ∀ k, S k → k < n) : IsSame w S W := isSame_of fun k hk => h.block k (hS k hk)
theorem below_draws (W : World) (n a b : Nat) : Below n (W.drewN a) (W.drewN b) := ⟨rfl, rfl, rfl, Nat.le_refl _, fun _ _ => rfl⟩
def IsLaterD (w : World) (W : World) : Prop := ∃ x : LaterD w, W = x.W
theorem isLaterD_of {w W : World} (h : Below w.heap.size w W) : IsLaterD w W := ⟨⟨W, h⟩, rfl⟩

theorem wpIn_move {o : Oper} {a b : Act} {w : World} {K K' : Act → World → Prop} {Q Q' : Exit → Act → World → Prop} (hd : noDefer o = true) (he : execOp a.eval o = execOp b.eval o) (ha : o.about P w a.eval = o.about P w b.eval)
    (hK : ∀ v w', K (b.put o.dst v) w' → K' (a.put o.dst v) w') (hKd : ∀ d w', K ({ b with defers := d :: b.defers }.put o.dst undef) w' → K' ({ a with defers := d :: a.defers }.put o.dst undef) w') (hQ : ∀ e a w, Q e a w → e = .normal) (h : o.wpIn F n P b w K Q) : o.wpIn F n P a w K' Q' := by
  unfold Oper.wpIn at *
  rw [Oper.semAt_eq _ _ _ (noDefer_spec hd)] at *
  rw [ha, he]
  refine ⟨h.1, ?_⟩
  have h := h.2
  have nope : ∀ {X : Prop} {e : Exit} {a : Act} {w : World}, e ≠ .normal → Q e a w → X := fun hne hq => absurd (hQ _ _ _ hq) hne
  have hout : ∀ {X : Prop}, LetsOut Q → X := fun ⟨a, w, hq⟩ => nope (by simp) hq
  generalize (execOp b.eval o).run P w = r at *
  cases r with
  | ok x w' =>
    cases x <;> simp only [Oper.uponIn] at h ⊢ <;>
      first
        | exact hK _ _ h
        | exact ⟨h.1, CallsIn.mono h.2 (fun e w'' he => by cases e <;> first | exact hK _ _ he | exact nope (by simp) he | exact hout he)⟩
        | exact ⟨h.1, RowsIn.mono h.2 (fun _ _ he => hK _ _ he)⟩
        | exact ⟨h.1, RoundIn.mono h.2 (fun e w'' he => by cases e <;> first | exact hK _ _ he | exact nope (by simp) he | exact hout he)⟩
        | exact hKd _ _ h
  | halt x w' => cases x <;> simp only [Oper.uponIn] at h ⊢ <;> first | exact nope (by simp) h | exact h

theorem Lacks.defer {S : Nat → Prop} {a b : Act} (h : Lacks H S a b) (d : Deferred) : Lacks H S { a with defers := d :: a.defers } { b with defers := d :: b.defers } :=
  ⟨by rw [h.defers], h.size, h.same⟩
theorem HeadsAt.tail {b : Act} (h : HeadsAt F n P C H b) {d : Option Tmp} (hd : dstFar H d = true) (v : Value) (hr : ∀ o ∈ H, plainRead o = true) : HeadsAt F n P C H (b.put d v) := by
  intro i o ho
  obtain ⟨h1, u, h2, h3⟩ := h i o ho
  cases d with
  | none => exact ⟨h1, u, h2, h3⟩
  | some d =>
    have hm := List.mem_of_getElem? ho
    have := List.all_eq_true.1 hd o hm
    simp only [Bool.and_eq_true, Bool.not_eq_true', bne_iff_ne] at this
    have hev : ∀ x ∈ o.op.operands, (b.put (some d) v).eval x = b.eval x := operands_far (fun e he => by cases he; exact this.1)
    obtain ⟨e1, e2⟩ := quietAt_of (P := P) (read_sel (hr o hm)) hev
    refine ⟨fun w hw f hf => h1 w hw f (by rw [← e2]; exact hf), u, ?_, fun w hw => ?_⟩
    · have hne : ∀ e, o.dst = some e → e ≠ d := fun e he h => this.2 (by rw [he, h])
      cases hod : o.dst with
      | none => rfl
      | some e =>
        rw [hod] at h2
        have hc := Act.put_comm b (x := some e) (y := some d) u v (fun d' h1 h2 => by cases h1; cases h2; exact hne _ hod rfl)
        rw [← hc, h2]
    · have := h3 w hw
      unfold Oper.quietAtIn at this ⊢
      rw [e1]
      exact this
theorem HeadsAt.defers {b : Act} (h : HeadsAt F n P C H b) (ds : List Deferred) : HeadsAt F n P C H { b with defers := ds } := by
  intro i o ho
  obtain ⟨h1, u, h2, h3⟩ := h i o ho
  refine ⟨h1, u, ?_, h3⟩
  cases hd : o.dst with
  | none => rfl
  | some d =>
    rw [hd] at h2
    have := congrArg Act.tmps h2
    simp only [Act.put] at this ⊢
    rw [this]

/-- In whatever order the heads come among the others. -/
theorem floats_run (hok : floatsOk H T = true) (Q : Exit → Act → World → Prop) : ∀ (g : Nat) (t : Nat) (L : Array Bool) (a b : Act) (w : World), t ≤ T.length → unlisted H.length L + (T.length - t) = g → L.size = H.length + T.length →
    (∀ s, s < T.length → L[H.length + s]? = some (decide (s < t))) → (t = T.length → unlisted H.length L = 0) → (t < T.length → C w) → Lacks H (fun i => L.getD i true = false) a b → (t < T.length → HeadsAt F n P C H b) →
    wpTailIn F n P (H ++ T).toArray C (fun a w => Q .normal a w) (T.drop t) b w → wpAnyIn F n P .any (H ++ T).toArray Q g L a w := by
  have oph : ∀ i, i < H.length → ((H ++ T).toArray)[i]? = H[i]? := fun i hi => by rw [List.getElem?_toArray, List.getElem?_append_left hi]
  have opt : ∀ t, ((H ++ T).toArray)[H.length + t]? = T[t]? := fun t => by rw [List.getElem?_toArray, List.getElem?_append_right (by omega)]; congr 1; omega
  have done : ∀ (L : Array Bool), L.size = H.length + T.length → (∀ s, s < T.length → L[H.length + s]? = some true) → unlisted H.length L = 0 → Region.ready .any (H ++ T).toArray L = [] := by
    intro L hs hT hu
    rw [List.eq_nil_iff_forall_not_mem]
    intro j hj
    obtain ⟨hj1, o, ho, _⟩ := mem_ready.1 hj
    have hlt : j < H.length + T.length := by have := (Array.getElem?_eq_some_iff.1 ho).1; simpa using this
    rcases Nat.lt_or_ge j H.length with hjh | hjh
    · have := unlisted_zero hu (by omega) j hjh
      simp only [Array.getD_eq_getD_getElem?] at this hj1
      rw [Array.getElem?_eq_getElem (by omega)] at this hj1
      simp at this hj1
      rw [this] at hj1; cases hj1
    · have := hT (j - H.length) (by omega)
      rw [show H.length + (j - H.length) = j by omega] at this
      simp [this] at hj1
  intro g
  induction g with
  | zero =>
    intro t L a b w ht hg hs hT hlast _ hl _ h
    have htl : t = T.length := by omega
    subst htl
    have hu : unlisted H.length L = 0 := by omega
    refine ⟨done L hs (fun s hs' => by rw [hT s hs']; simp [hs']) hu, ?_⟩
    rw [List.drop_length] at h
    rw [hl.full fun i hi hn => by
      have := unlisted_zero hu (by omega) i hi
      simp only [Array.getD_eq_getD_getElem?] at this hn
      rw [Array.getElem?_eq_getElem (by omega)] at this hn
      simp at this hn
      rw [this] at hn; cases hn]
    exact h
  | succ g ih =>
    intro t L a b w ht hg hs hT hlast hC hl hat h
    have htl : t < T.length := by
      rcases Nat.lt_or_ge t T.length with h | h
      · exact h
      · have := hlast (by omega); omega
    have hCw := hC htl
    have hAt := hat htl
    have hrd : Region.ready .any (H ++ T).toArray L ≠ [] := by
      intro hnil
      by_cases hu : unlisted H.length L = 0
      · have hop : T[t]? = some T[t] := by simp [htl]
        have hO := floats_tail hok hop
        have : H.length + t ∈ Region.ready .any (H ++ T).toArray L := mem_ready.2 ⟨by simp [hT t htl], T[t], by rw [opt]; exact hop, fun e he hb => by
          have hlt := ownEdges_spec hO.edges e he hb
          rcases Nat.lt_or_ge e.on H.length with hh | hh
          · exact unlisted_zero hu (by omega) _ hh
          · have := hT (e.on - H.length) (by omega)
            rw [show H.length + (e.on - H.length) = e.on by omega] at this
            simp [this]; omega⟩
        rw [hnil] at this; cases this
      · have hne : ∃ i, i < H.length ∧ L.getD i true = false := by
          have hpos : 0 < ((List.range H.length).filter fun i => !L.getD i true).length := by unfold unlisted at hu; omega
          obtain ⟨i, hi⟩ := List.exists_mem_of_length_pos hpos
          obtain ⟨g1, g2⟩ := List.mem_filter.1 hi
          exact ⟨i, List.mem_range.1 g1, by simpa using g2⟩
        obtain ⟨i0, ⟨hi0, hu0⟩, hmin⟩ := exists_least (p := fun i => i < H.length ∧ L.getD i true = false) hne
        have hop : H[i0]? = some H[i0] := by simp [hi0]
        have hO := floats_head hok hop
        have : i0 ∈ Region.ready .any (H ++ T).toArray L := mem_ready.2 ⟨hu0, H[i0], by rw [oph _ hi0]; exact hop, fun e he hb => by
          have hlt := ownEdges_spec hO.edges e he hb
          have hnot : ¬ L.getD e.on true = false := fun hh => by have := hmin e.on ⟨by omega, hh⟩; omega
          simp only [Array.getD_eq_getD_getElem?] at hnot ⊢
          rw [Array.getElem?_eq_getElem (by omega)] at hnot ⊢
          simpa using hnot⟩
        rw [hnil] at this; cases this
    refine ⟨fun e => absurd e hrd, fun j hj => ?_⟩
    obtain ⟨hj1, o, ho, hall⟩ := mem_ready.1 hj
    have hjl : j < H.length + T.length := by have := (Array.getElem?_eq_some_iff.1 ho).1; simpa using this
    rcases Nat.lt_or_ge j H.length with hjh | hjh
    · -- a head
      have hoH : H[j]? = some o := by rw [← oph j hjh]; exact ho
      have hO := floats_head hok hoH
      obtain ⟨hask, v, hv, hq⟩ := hAt j o hoH
      have hev := hl.eval (o := o) fun i h' hi hh d hd => by
        rcases readsNot_spec hO.far hh with ⟨e, hee, hb, hon⟩ | h
        · have h1 := hall e hee hb
          have h2 := hi
          rw [hon] at h1
          simp only [Array.getD_eq_getD_getElem?] at h1 h2
          have hlt := (List.getElem?_eq_some_iff.1 hh).1
          rw [Array.getElem?_eq_getElem (by omega)] at h1 h2
          simp at h1 h2
          rw [h1] at h2; cases h2
        · exact h d hd
      obtain ⟨e1, e2⟩ := quietAt_of (P := P) (read_sel hO.read) hev
      unfold wpOpIn
      rw [ho]
      dsimp only
      rw [if_pos (plainRead_want hO.read _)]
      refine read_runs (C := C) (K := fun a' => a' = a.put o.dst v) hO.read hCw (fun a' ha' => ?_) ⟨v, fun w' hw' => ?_, rfl⟩ (fun w' hw' f hf => hask w' hw' f (by rw [← e2]; exact hf))
      · subst ha'
        have hul := unlisted_set hjh (by omega) hj1
        refine ih t _ _ b w ht (by omega) (by simpa using hs) (fun s hs' => ?_) (fun e => by omega) (fun _ => hCw) (hl.head hoH hv fun i hi => ?_) (fun _ => hAt) h
        · rw [Array.getElem?_setIfInBounds_ne (by omega)]; exact hT s hs'
        · by_cases hij : i = j
          · exact .inl hij
          · refine .inr ?_
            rw [getD_set_ne true (Ne.symm hij)]; exact hi
      · have := hq w' hw'
        unfold Oper.quietAtIn at this ⊢
        rw [e1]
        exact this
    · -- the next of the others
      have hoT : T[j - H.length]? = some o := by
        have := opt (j - H.length)
        rw [show H.length + (j - H.length) = j by omega, ho] at this
        exact this.symm
      have hO := floats_tail hok hoT
      have hjt : j - H.length = t := by
        rcases Nat.lt_trichotomy (j - H.length) t with hlt | he | hgt
        · exfalso
          have := hT (j - H.length) (by omega)
          rw [show H.length + (j - H.length) = j by omega] at this
          simp [this, hlt] at hj1
        · exact he
        · exfalso
          obtain ⟨e, he, hb, hon⟩ := hO.chain (by omega)
          have := hall e he hb
          rw [hon] at this
          have h5 := hT (j - H.length - 1) (by omega)
          rw [decide_eq_false (by omega)] at h5
          simp [h5] at this
      obtain rfl : j = H.length + t := by omega
      rw [show H.length + t - H.length = t by omega] at hoT hO
      have hdrop : T.drop t = o :: T.drop (t + 1) := by
        rw [List.drop_eq_getElem_cons htl]
        rw [List.getElem?_eq_getElem htl] at hoT
        rw [Option.some.inj hoT]
      rw [hdrop] at h
      simp only [wpTailIn, wpListIn] at h
      have hw : ∀ z, Region.wanted o z = true := fun z => by simp [Region.wanted, hO.guard]
      rw [if_pos (hw _)] at h
      have hev := hl.eval (o := o) fun i h' hi hh d hd => by
        rcases readsNot_spec hO.far hh with ⟨e, hee, hb, hon⟩ | h
        · have h1 := hall e hee hb
          have h2 := hi
          rw [hon] at h1
          simp only [Array.getD_eq_getD_getElem?] at h1 h2
          have hlt := (List.getElem?_eq_some_iff.1 hh).1
          rw [Array.getElem?_eq_getElem (by omega)] at h1 h2
          simp at h1 h2
          rw [h1] at h2; cases h2
        · exact h d hd
      obtain ⟨e1, e2⟩ := quietAt_of (P := P) (sel_of hO.noSel) hev
      unfold wpOpIn
      rw [ho]
      dsimp only
      rw [if_pos (hw _)]
      have hun : unlisted H.length (L.setIfInBounds (H.length + t) true) = unlisted H.length L := by
        unfold unlisted
        rw [List.filter_congr fun i hi => by rw [getD_set_ne true (by have := List.mem_range.1 hi; omega)]]
      have hS : (fun i => (L.setIfInBounds (H.length + t) true).getD i true = false) = fun i => L.getD i true = false ∧ i ≠ H.length + t ∨ (i = H.length + t ∧ False) := by
        funext i
        by_cases hi : i = H.length + t
        · subst hi
          simp only [Array.getD_eq_getD_getElem?]
          rw [Array.getElem?_setIfInBounds_self_of_lt (by omega)]
          simp
        · rw [getD_set_ne true (Ne.symm hi)]; simp [hi]
      have hLk : ∀ {a b : Act}, Lacks H (fun i => L.getD i true = false) a b → Lacks H (fun i => (L.setIfInBounds (H.length + t) true).getD i true = false) a b := fun hl => by
        refine ⟨hl.defers, hl.size, fun s hs => hl.same s fun i o hi ho => hs i o ?_ ho⟩
        have := (List.getElem?_eq_some_iff.1 ho).1
        rw [getD_set_ne true (by omega)]; exact hi
      have hlast' : t + 1 = T.length → unlisted H.length L = 0 := by
        intro he
        have hwa := hO.last he
        unfold unlisted
        rw [List.length_eq_zero_iff, List.filter_eq_nil_iff]
        intro i hi
        obtain ⟨e, hee, hb, hon⟩ := waitsAll_spec hwa (i := i) (by have := List.mem_range.1 hi; omega)
        have h1 := hall e hee hb
        rw [hon] at h1
        have := List.mem_range.1 hi
        simp only [Array.getD_eq_getD_getElem?] at h1 ⊢
        rw [Array.getElem?_eq_getElem (by omega)] at h1 ⊢
        simpa using h1
      have next : ∀ (a' b' : Act) (w' : World), Lacks H (fun i => L.getD i true = false) a' b' → (t + 1 < T.length → HeadsAt F n P C H b') → (T.drop (t + 1) ≠ [] → C w') → wpTailIn F n P (H ++ T).toArray C (fun a w => Q .normal a w) (T.drop (t + 1)) b' w' →
          wpAnyIn F n P .any (H ++ T).toArray Q g (L.setIfInBounds (H.length + t) true) a' w' := fun a' b' w' hl' hat' hC' h' => by
        refine ih (t + 1) _ a' b' w' (by omega) (by rw [hun]; omega) (by simpa using hs) (fun s hs' => ?_) (fun e => by rw [hun]; exact hlast' e) (fun hlt => hC' (fun e => by have := congrArg List.length e; simp at this; omega)) (hLk hl') hat' h'
        by_cases he : s = t
        · subst he
          rw [Array.getElem?_setIfInBounds_self_of_lt (by omega)]
          simp
        · rw [Array.getElem?_setIfInBounds_ne (by omega), hT s hs']
          congr 1
          rw [decide_eq_decide]
          omega
      refine wpIn_move hO.noDefer e1 (e2 w) (fun v w' h' => ?_) (fun d w' h' => ?_) (fun e a w h => h.1) h
      · exact next _ _ _ (hl.tail _ _) (fun _ => hAt.tail hO.dst v fun o ho => by obtain ⟨i, hi, rfl⟩ := List.getElem_of_mem ho; exact (floats_head hok (j := i) (by simp [hi])).read) h'.2.1 h'.2.2
      · exact next _ _ _ ((hl.defer d).tail _ _) (fun _ => (hAt.defers _).tail hO.dst undef fun o ho => by obtain ⟨i, hi, rfl⟩ := List.getElem_of_mem ho; exact (floats_head hok (j := i) (by simp [hi])).read) h'.2.1 h'.2.2

/-- A region that draws its order: reads, which may come among the others; behind each of the others but the last the world is one of the class C, in which the reads are what they are. -/
theorem wpIn_floats {id : Nat} {Q : Exit → Act → World → Prop} {a : Act} {w : World} {ops : List Oper} (C : World → Prop) (k : Nat) (hm : P.follows .mixedOrders = true) (hok : floatsOk (ops.take k) (ops.drop k) = true) (hT : k < ops.length)
    (hC : C { w with drawn := w.drawn + 1 })
    (h : wpQuietIn F n P (ops.take k).toArray C (fun a' => ∀ w', w' = { w with drawn := w.drawn + 1 } → wpTailIn F n P ops.toArray C (fun a w => Q .normal a w) (ops.drop k) a' w') (ops.take k) a) :
    (Code.region id ops.toArray true).wpIn F n P Q a w := by
  refine wpIn_region_any hm ?_
  have e : ops.take k ++ ops.drop k = ops := List.take_append_drop k ops
  obtain ⟨b, q1, q2, q3, _⟩ := heads_frame (T := ops.drop k) hok _ (ops.take k) 0 a (by simp) (Nat.zero_le _) h
  have hlen : (ops.take k).length = k := by rw [List.length_take]; omega
  have hlen2 : (ops.drop k).length = ops.length - k := List.length_drop
  have hun : unlisted (ops.take k).length (Array.replicate ops.length false) = (ops.take k).length := by
    unfold unlisted
    rw [List.filter_eq_self.2 (fun i hi => ?_), List.length_range]
    have := List.mem_range.1 hi
    simp only [Array.getD_eq_getD_getElem?]
    rw [Array.getElem?_replicate, if_pos (by omega)]; rfl
  have hrun := floats_run (F := F) (n := n) (P := P) (C := C) (H := ops.take k) (T := ops.drop k) hok Q ops.length 0 (Array.replicate ops.length false) a b { w with drawn := w.drawn + 1 } (Nat.zero_le _)
    (by rw [hun]; omega) (by simp; omega) (fun s hs => by rw [Array.getElem?_replicate, if_pos (by omega)]; simp) (fun e => by omega) (fun _ => hC)
    ⟨q2.defers, q2.size, fun s hs => q2.same s fun i o _ ho => hs i o (by
      have := (List.getElem?_eq_some_iff.1 ho).1
      simp only [Array.getD_eq_getD_getElem?]
      rw [Array.getElem?_replicate, if_pos (by omega)]; rfl) ho⟩
    (fun _ i o ho => q3 i o (Nat.zero_le _) ho) (by rw [e, List.drop_zero]; exact q1 _ rfl)
  rw [e] at hrun
  simpa using hrun

/-- The same, where the class is: all later worlds. -/
theorem wpIn_later {id : Nat} {Q : Exit → Act → World → Prop} {a : Act} {w : World} {ops : List Oper} (k : Nat) (hm : P.follows .mixedOrders = true) (hok : floatsOk (ops.take k) (ops.drop k) = true) (hT : k < ops.length)
    (h : wpQuietIn F n P (ops.take k).toArray (fun W => ∃ x : LaterD w, W = x.W) (fun a' => wpTailIn F n P ops.toArray (IsLaterD w) (fun a w => Q .normal a w) (ops.drop k) a' w.drew) (ops.take k) a) :
    (Code.region id ops.toArray true).wpIn F n P Q a w :=
  wpIn_floats (IsLaterD w) k hm hok hT (isLaterD_of ⟨rfl, rfl, rfl, Nat.le_refl _, fun _ _ => rfl⟩) (by
    have e : (fun a' => ∀ w', w' = { w with drawn := w.drawn + 1 } → wpTailIn F n P ops.toArray (IsLaterD w) (fun a w => Q .normal a w) (ops.drop k) a' w') = (fun a' => wpTailIn F n P ops.toArray (IsLaterD w) (fun a w => Q .normal a w) (ops.drop k) a' w.drew) := by
      funext a'
      simp only [forall_eq]
      rfl
    rw [e]
    exact h)

/-- The same, where the class is: all worlds in which some blocks lie as they did. -/
theorem wpIn_same {id : Nat} {Q : Exit → Act → World → Prop} {a : Act} {w : World} {ops : List Oper} (S : Nat → Prop) (k : Nat) (hm : P.follows .mixedOrders = true) (hok : floatsOk (ops.take k) (ops.drop k) = true) (hT : k < ops.length)
    (h : wpQuietIn F n P (ops.take k).toArray (fun W => ∃ x : SameAt w S, W = x.W) (fun a' => wpTailIn F n P ops.toArray (IsSame w S) (fun a w => Q .normal a w) (ops.drop k) a' w.drew) (ops.take k) a) :
    (Code.region id ops.toArray true).wpIn F n P Q a w :=
  wpIn_floats (IsSame w S) k hm hok hT (isSame_of fun _ _ => rfl) (by
    have e : (fun a' => ∀ w', w' = { w with drawn := w.drawn + 1 } → wpTailIn F n P ops.toArray (IsSame w S) (fun a w => Q .normal a w) (ops.drop k) a' w') = (fun a' => wpTailIn F n P ops.toArray (IsSame w S) (fun a w => Q .normal a w) (ops.drop k) a' w.drew) := by
      funext a'
      simp only [forall_eq]
      rfl
    rw [e]
    exact h)
end
end
end Go.Proofs.YtjoifmnolmimkaaGreatDoor
