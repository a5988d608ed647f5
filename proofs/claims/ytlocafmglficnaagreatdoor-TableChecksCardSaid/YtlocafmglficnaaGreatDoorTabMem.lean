/- Slices of structs with slices in them, in memory: how they read, how they are built, what keeps them. Plain words, no program. -/
import Derived.Test.YtlocafmglficnaaGreatDoorProg
import Derived.ProofKit
import Derived.WalkKit
import Derived.Handy
import Derived.Lib.Hide
import Derived.BigQuiet
import Derived.Maps.OwnSet
import Derived.Maps.StringElems
import Derived.Maps.AppendAt
import Derived.WalkLawsBesides
import Derived.WalkSpells
namespace Go.Proofs.YtlocafmglficnaaGreatDoor
open Go.RowKit

/-- A kind of elements: its type, its number of cells, how its cells hold a datum (the slices in it lie in blocks that C allows), the types of those slices' elements. -/
structure Kind (α : Type) where
  ty : TypeId
  k : Nat
  is : (C : TypeId → Nat → Prop) → World → List Value → α → Prop
  inner : List TypeId
  len : ∀ {C w l x}, is C w l x → l.length = k
  keep : ∀ {C C' : TypeId → Nat → Prop} {w w' : World} {l x}, is C w l x → (∀ E b, E ∈ inner → b < w.heap.size → C E b → C' E b ∧ w'.heap[b]? = w.heap[b]?) → is C' w' l x

/-- A slice that reads as xs. -/
def SRow {α : Type} (K : Kind α) (C : TypeId → Nat → Prop) (w : World) (v : Value) (xs : List α) : Prop :=
  ∃ A c, v = .slice A xs.length c ∧ xs.length ≤ c ∧ c ≤ maxLen ∧ (0 < xs.length → ∃ b o, A = some ⟨b, o, none⟩ ∧ C K.ty b ∧ b < w.heap.size ∧
    ∀ (j : Nat) (x : α), xs[j]? = some x → ∃ l, K.is C w l x ∧ ∀ (i : Nat) (u : Value), l[i]? = some u → w.cell? ⟨b, o + j * K.k + i, none⟩ = some u)

section
variable {α : Type} {K : Kind α} {C C' : TypeId → Nat → Prop} {w w' : World} {v : Value} {xs : List α}

theorem SRow.keep (h : SRow K C w v xs) (hk : ∀ E b, E ∈ K.ty :: K.inner → b < w.heap.size → C E b → C' E b ∧ w'.heap[b]? = w.heap[b]?) : SRow K C' w' v xs := by
  obtain ⟨A, c, e, h1, h2, h3⟩ := h
  refine ⟨A, c, e, h1, h2, fun h0 => ?_⟩
  obtain ⟨b, o, eA, hC, hb, hx⟩ := h3 h0
  obtain ⟨hC', hs⟩ := hk K.ty b (by simp) hb hC
  have hb' : b < w'.heap.size := by
    have : w'.heap[b]? = some w.heap[b] := hs.trans (Array.getElem?_eq_getElem hb)
    exact (Array.getElem?_eq_some_iff.1 this).1
  refine ⟨b, o, eA, hC', hb', fun j x hj => ?_⟩
  obtain ⟨l, hl, hc⟩ := hx j x hj
  exact ⟨l, K.keep hl fun E b hE => hk E b (List.mem_cons_of_mem _ hE), fun i u hi => (World.cell?_of_block hs).trans (hc i u hi)⟩
theorem SRow.below (h : SRow K C w v xs) (hb : Below w.heap.size w w') : SRow K C w' v xs := h.keep fun _ b _ hlt hC => ⟨hC, hb.block b hlt⟩
theorem SRow.mono (h : SRow K C w v xs) (hm : ∀ E b, C E b → C' E b) : SRow K C' w v xs := h.keep fun E b _ _ hC => ⟨hm E b hC, rfl⟩
theorem SRow.nil (K : Kind α) (C : TypeId → Nat → Prop) (w : World) : SRow K C w (.slice none 0 0) [] := ⟨none, 0, rfl, Nat.le_refl _, Nat.zero_le _, fun h => absurd h (by simp)⟩
theorem SRow.slice (h : SRow K C w v xs) : ∃ A c, v = .slice A xs.length c ∧ xs.length ≤ c ∧ c ≤ maxLen := by
  obtain ⟨A, c, e, h1, h2, _⟩ := h
  exact ⟨A, c, e, h1, h2⟩
theorem SRow.take {A : Option Addr} {c : Nat} (h : SRow K C w (.slice A xs.length c) xs) {n : Nat} (hn : n ≤ xs.length) : SRow K C w (.slice A n c) (xs.take n) := by
  obtain ⟨A', c', e, h1, h2, h3⟩ := h
  simp only [Value.slice.injEq, true_and] at e
  obtain ⟨rfl, rfl⟩ := e
  have hl : (xs.take n).length = n := by simp; omega
  refine ⟨A, c, by rw [hl], by omega, h2, fun h0 => ?_⟩
  obtain ⟨b, o, eA, hC, hb, hx⟩ := h3 (by omega)
  refine ⟨b, o, eA, hC, hb, fun j x hj => hx j x ?_⟩
  rw [List.getElem?_take] at hj
  split at hj
  · exact hj
  · cases hj
end

/-- Blocks that the call made: from base on, of the elements' type. -/
def Own (base : Nat) (w : World) (E : TypeId) (b : Nat) : Prop := base ≤ b ∧ ∃ cur, w.heap[b]? = some (.cells cur E (0, 0))
/-- Any block. -/
def Any (_ : TypeId) (_ : Nat) : Prop := True

/-- A slice of the call's own that reads as xs. -/
def OSeq {α : Type} (K : Kind α) (base : Nat) (w : World) (v : Value) (xs : List α) : Prop :=
  ∃ ls : List (List Value), w.ownsRow base K.ty K.k v xs.length ls.flatten ∧ ls.length = xs.length ∧ ∀ (j : Nat) (x : α), xs[j]? = some x → ∃ l, ls[j]? = some l ∧ K.is (Own base w) w l x

section
variable {α : Type} {K : Kind α} {base : Nat} {w w' : World} {v v' : Value} {xs : List α}
theorem OSeq.nil (K : Kind α) (base : Nat) (w : World) : OSeq K base w (.slice none 0 0) [] := ⟨[], World.ownsRow_nil _ _ _ _, rfl, fun j x h => by simp at h⟩
theorem OSeq.slice (h : OSeq K base w v xs) : ∃ A c, v = .slice A xs.length c ∧ xs.length ≤ c ∧ c ≤ maxLen := by
  obtain ⟨ls, ho, _⟩ := h
  rcases ho.2 with ⟨e, h0⟩ | ⟨g, cap, cur, e, _, _, h1, h2, _⟩
  · exact ⟨none, 0, by rw [e, h0], by omega, Nat.zero_le _⟩
  · exact ⟨_, _, e, h1, h2⟩
theorem own_keep {base : Nat} {w w' : World} {row : Option Nat} (hg : w.grownBy w' row) {E : TypeId} {b : Nat} (hE : ∀ r, row = some r → ∀ cur, w.heap[r]? ≠ some (.cells cur E (0, 0))) (h : Own base w E b) : Own base w' E b ∧ w'.heap[b]? = w.heap[b]? := by
  obtain ⟨hb, cur, hc⟩ := h
  have hs : w'.heap[b]? = w.heap[b]? := hg.block b (Array.getElem?_eq_some_iff.1 hc).1 fun e => hE b e.symm cur hc
  exact ⟨⟨hb, cur, hs.trans hc⟩, hs⟩
/-- What is kept by growth of a block of another type, or of none. -/
theorem Kind.keepOwn {l : List Value} {x : α} {row : Option Nat} (h : K.is (Own base w) w l x) (hg : w.grownBy w' row) (hE : ∀ r, row = some r → ∀ E ∈ K.inner, ∀ cur, w.heap[r]? ≠ some (.cells cur E (0, 0))) : K.is (Own base w') w' l x :=
  K.keep h fun E _ hin _ hO => own_keep hg (fun r hr => hE r hr E hin) hO
theorem OSeq.later (h : OSeq K base w v xs) (hb : Below w.heap.size w w') : OSeq K base w' v xs := by
  obtain ⟨ls, ho, hl, hx⟩ := h
  have hg : w.grownBy w' none := ⟨hb.os, hb.tape, hb.output, hb.size, fun k hk _ => hb.block k hk⟩
  refine ⟨ls, ho.kept hg ?_, hl, fun j x hj => ?_⟩
  · cases hv : v.ownBlock with
    | none => exact .inl rfl
    | some g => exact .inr (by simp)
  · obtain ⟨l, e, hi⟩ := hx j x hj
    exact ⟨l, e, K.keepOwn hi hg fun r hr => by cases hr⟩
/-- The block of a slice that is owned. -/
theorem owned_block {base n size : Nat} {w : World} {E : TypeId} {v : Value} {us : List Value} (h : w.ownsRow base E size v n us) {r : Nat} (hr : v.ownBlock = some r) : ∃ cur, w.heap[r]? = some (.cells cur E (0, 0)) := by
  rcases h.2 with ⟨e, _⟩ | ⟨g, cap, cur, e, _, hh, _⟩
  · subst e; cases hr
  · subst e
    simp only [Value.ownBlock, Option.some.injEq] at hr
    subst hr
    exact ⟨cur, hh⟩
/-- One element more. -/
theorem OSeq.app (h : OSeq K base w v xs) (hK : K.ty ∉ K.inner) {l : List Value} {x : α} (hi : K.is (Own base w) w l x) (hown : ∀ us, w.ownsRow base K.ty K.k v xs.length us → w'.ownsRow base K.ty K.k v' (xs.length + 1) (us ++ l)) (hg : w.grownBy w' v.ownBlock) : OSeq K base w' v' (xs ++ [x]) := by
  obtain ⟨ls, ho, hl, hx⟩ := h
  have hE : ∀ r, v.ownBlock = some r → ∀ E ∈ K.inner, ∀ cur, w.heap[r]? ≠ some (.cells cur E (0, 0)) := by
    intro r hr E hin cur e
    obtain ⟨cur', e'⟩ := owned_block ho hr
    rw [e'] at e
    simp only [Option.some.injEq, Obj.cells.injEq] at e
    exact hK (e.2.1 ▸ hin)
  refine ⟨ls ++ [l], ?_, by simp [hl], fun j y hj => ?_⟩
  · have := hown _ ho
    simpa using this
  · rcases Nat.lt_or_ge j xs.length with hlt | hge
    · rw [List.getElem?_append_left hlt] at hj
      obtain ⟨l', e, hi'⟩ := hx j y hj
      exact ⟨l', by rw [List.getElem?_append_left (by omega)]; exact e, K.keepOwn hi' hg hE⟩
    · rw [List.getElem?_append_right hge] at hj
      have hj0 : j - xs.length = 0 := by
        rcases Nat.eq_zero_or_pos (j - xs.length) with h0 | h0
        · exact h0
        · rw [List.getElem?_eq_none (by simp; omega)] at hj; cases hj
      rw [hj0] at hj
      simp only [List.getElem?_cons_zero, Option.some.injEq] at hj
      subst hj
      exact ⟨l, by rw [List.getElem?_append_right (by omega), show j - ls.length = 0 by omega]; rfl, K.keepOwn hi hg hE⟩
theorem flatten_at {k : Nat} : ∀ {ls : List (List Value)}, (∀ l ∈ ls, l.length = k) → ∀ {j i : Nat} {l : List Value} {u : Value}, ls[j]? = some l → l[i]? = some u → ls.flatten[j * k + i]? = some u
  | [], _, j, i, l, u, hj, _ => by simp at hj
  | l0 :: ls, hl, 0, i, l, u, hj, hi => by
    simp only [List.getElem?_cons_zero, Option.some.injEq] at hj
    subst hj
    rw [List.flatten_cons, List.getElem?_append_left (by have := (List.getElem?_eq_some_iff.1 hi).1; omega), Nat.zero_mul, Nat.zero_add, hi]
  | l0 :: ls, hl, j + 1, i, l, u, hj, hi => by
    have h0 : l0.length = k := hl l0 (by simp)
    have he : (j + 1) * k + i = l0.length + (j * k + i) := by rw [Nat.add_mul, Nat.one_mul, h0]; omega
    rw [List.flatten_cons, he, List.getElem?_append_right (by omega), Nat.add_sub_cancel_left]
    exact flatten_at (fun l hl' => hl l (List.mem_cons_of_mem _ hl')) (by simpa using hj) hi
theorem OSeq.row (h : OSeq K base w v xs) : SRow K (Own base w) w v xs := by
  obtain ⟨A, c, e, h1, h2⟩ := h.slice
  obtain ⟨ls, ho, hl, hx⟩ := h
  refine ⟨A, c, e, h1, h2, fun h0 => ?_⟩
  subst e
  have hlen : ∀ l ∈ ls, l.length = K.k := by
    intro l hm
    obtain ⟨j, hj, e⟩ := List.getElem_of_mem hm
    have hjx : j < xs.length := by omega
    obtain ⟨l', e', hi⟩ := hx j xs[j] (by simp [hjx])
    rw [List.getElem?_eq_getElem hj, Option.some.injEq] at e'
    rw [← e, e']
    exact K.len hi
  rcases ho.2 with ⟨e, hz⟩ | ⟨g, cap, cur, e, hb, hh, _⟩
  · omega
  · simp only [Value.slice.injEq] at e
    obtain ⟨rfl, _, rfl⟩ := e
    refine ⟨g, 0, rfl, ⟨hb, cur, hh⟩, (Array.getElem?_eq_some_iff.1 hh).1, fun j x hj => ?_⟩
    obtain ⟨l, e', hi⟩ := hx j x hj
    refine ⟨l, hi, fun i u hu => ?_⟩
    have := ho.cells (g := g) rfl (j * K.k + i) u (flatten_at hlen e' hu)
    rw [show (⟨g, 0, none⟩ : Addr).add (j * K.k + i) = ⟨g, 0 + (j * K.k + i), none⟩ by unfold Addr.add; split <;> simp_all] at this
    rw [show (0 + j * K.k + i) = 0 + (j * K.k + i) by omega]
    exact this
theorem OSeq.any (h : OSeq K base w v xs) : SRow K Any w v xs := h.row.mono fun _ _ _ => trivial
end

/-! ### The kinds -/
structure Col where
  name : ByteArray
  lo : Int
  hi : Int
  words : List ByteArray
structure Sch where
  name : ByteArray
  pub : Bool
  many : Int
  cols : List Col
structure RowV where
  owner : Int
  vals : List Int
structure Tbl where
  sch : Sch
  rows : List RowV

/-- A number that an int holds. -/
def Fit (x : Int) : Prop := -9223372036854775808 ≤ x ∧ x ≤ 9223372036854775807
def intK : Kind Int where
  ty := 3
  k := 1
  is := fun _ _ l x => l = [.int .i64 x] ∧ Fit x
  inner := []
  len := fun h => by rw [h.1]; rfl
  keep := fun h _ => h
def strK : Kind ByteArray where
  ty := 9
  k := 1
  is := fun _ _ l x => l = [.string x] ∧ x.size ≤ maxLen
  inner := []
  len := fun h => by rw [h.1]; rfl
  keep := fun h _ => h
def colK : Kind Col where
  ty := 25
  k := 4
  is := fun C w l x => ∃ v, l = [.string x.name, .int .i64 x.lo, .int .i64 x.hi, v] ∧ SRow strK C w v x.words ∧ (x.name.size ≤ maxLen ∧ Fit x.lo ∧ Fit x.hi)
  inner := [9]
  len := fun ⟨_, h, _⟩ => by rw [h]; rfl
  keep := fun ⟨v, h, hr, hs⟩ hk => ⟨v, h, hr.keep fun E b hE => hk E b hE, hs⟩
def schK : Kind Sch where
  ty := 34
  k := 4
  is := fun C w l x => ∃ v, l = [.string x.name, .bool x.pub, .int .i64 x.many, v] ∧ SRow colK C w v x.cols ∧ (x.name.size ≤ maxLen ∧ Fit x.many)
  inner := [25, 9]
  len := fun ⟨_, h, _⟩ => by rw [h]; rfl
  keep := fun ⟨v, h, hr, hs⟩ hk => ⟨v, h, hr.keep fun E b hE => hk E b hE, hs⟩
def rowK : Kind RowV where
  ty := 53
  k := 2
  is := fun C w l x => ∃ v, l = [.int .i64 x.owner, v] ∧ SRow intK C w v x.vals ∧ Fit x.owner
  inner := [3]
  len := fun ⟨_, h, _⟩ => by rw [h]; rfl
  keep := fun ⟨v, h, hr, hs⟩ hk => ⟨v, h, hr.keep fun E b hE => hk E b hE, hs⟩
theorem sub_sch {E : TypeId} (h : E ∈ schK.inner) : E ∈ ([25, 9, 53, 3] : List TypeId) := by
  have : E = 25 ∨ E = 9 := by simpa [schK] using h
  rcases this with rfl | rfl <;> simp
theorem sub_row {E : TypeId} (h : E ∈ rowK.ty :: rowK.inner) : E ∈ ([25, 9, 53, 3] : List TypeId) := by
  have : E = 53 ∨ E = 3 := by simpa [rowK] using h
  rcases this with rfl | rfl <;> simp
def tblK : Kind Tbl where
  ty := 37
  k := 5
  is := fun C w l x => ∃ ls v, l = ls ++ [v] ∧ schK.is C w ls x.sch ∧ SRow rowK C w v x.rows
  inner := [25, 9, 53, 3]
  len := fun ⟨_, _, h, hs, _⟩ => by rw [h, List.length_append, schK.len hs]; rfl
  keep := fun ⟨ls, v, h, hs, hr⟩ hk => ⟨ls, v, h, schK.keep hs fun E b hE => hk E b (sub_sch hE), hr.keep fun E b hE => hk E b (sub_row hE)⟩
end Go.Proofs.YtlocafmglficnaaGreatDoor
