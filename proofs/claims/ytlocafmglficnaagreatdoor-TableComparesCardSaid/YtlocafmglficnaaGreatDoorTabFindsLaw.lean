/- TableFinds: the plain law. -/
import Derived.Test.YtlocafmglficnaaGreatDoorTabDifferO
namespace Go.Proofs.YtlocafmglficnaaGreatDoor
open Go.RowKit

/-- One step of differ's search. -/
noncomputable def stepP (p : Int → Bool) (st : Int × Bool) (o : Int) : Int × Bool := if ((!st.2 || decide (o < st.1)) && p o) = true then (o, true) else st
theorem stepP_none {p : Int → Bool} : ∀ (l : List Int) (st : Int × Bool), (∀ o ∈ l, p o = false) → l.foldl (stepP p) st = st
  | [], st, _ => rfl
  | x :: l, st, h => by
    rw [List.foldl_cons, show stepP p st x = st by unfold stepP; simp [h x (by simp)]]
    exact stepP_none l st fun o ho => h o (List.mem_cons_of_mem _ ho)
theorem stepP_one {p : Int → Bool} {l : List Int} {a : Int} (hl : l.Pairwise (· < ·)) (ha : a ∈ l) (hp : p a = true) (ho : ∀ o ∈ l, o ≠ a → p o = false) : l.foldl (stepP p) (0, false) = (a, true) := by
  obtain ⟨l1, l2, rfl⟩ := List.append_of_mem ha
  rw [List.pairwise_append, List.pairwise_cons] at hl
  obtain ⟨_, ⟨h2, _⟩, h3⟩ := hl
  rw [List.foldl_append, stepP_none l1 _ fun o hm => ho o (by simp [hm]) (fun e => by have := h3 o hm a (by simp); omega), List.foldl_cons, show stepP p (0, false) a = (a, true) by unfold stepP; simp [hp]]
  exact stepP_none l2 _ fun o hm => ho o (by simp [hm]) (fun e => by have := h2 o hm; omega)
theorem take_len {α : Type} (l : List α) : l.take l.length = l := List.take_of_length_le (Nat.le_refl _)
theorem differB_eq (ts us : List Tbl) : differB ts us = (asc (ownersOf us)).foldl (stepP fun o => eqB (withoutB us o) ts) ((asc (ownersOf ts)).foldl (stepP fun o => eqB (withoutB ts o) us) (0, false)) := by
  unfold differB eachO
  rw [take_len, take_len]
  rfl
theorem differT_eq (T U : Tbl) : differT T U = (asc (ownersT U)).foldl (stepP fun o => eqB (withoutT U o) T) ((asc (ownersT T)).foldl (stepP fun o => eqB (withoutT T o) U) (0, false)) := by
  unfold differT eachE
  rw [take_len, take_len]
  rfl
theorem mem_ownersT {T : Tbl} {o : Int} : o ∈ ownersT T ↔ T.sch.pub = false ∧ ∃ r ∈ T.rows, r.owner = o := by
  unfold ownersT
  split
  · rename_i h; simp [h]
  · rename_i h; simp [h]
theorem mem_ownersT_without {T : Tbl} {a o : Int} : o ∈ ownersT (withoutT T a) ↔ o ∈ ownersT T ∧ o ≠ a := by
  rw [mem_ownersT, mem_ownersT]
  show T.sch.pub = false ∧ (∃ r ∈ keptR T a, r.owner = o) ↔ _
  constructor
  · rintro ⟨h, r, hr, rfl⟩
    unfold keptR at hr
    rw [List.mem_filter] at hr
    have := hr.2
    simp [stays, h] at this
    exact ⟨⟨h, r, hr.1, rfl⟩, this⟩
  · rintro ⟨⟨h, r, hr, rfl⟩, hne⟩
    exact ⟨h, r, by unfold keptR; rw [List.mem_filter]; exact ⟨hr, by simp [stays, hne]⟩, rfl⟩
theorem withoutT_self {T : Tbl} {a : Int} (h : a ∉ ownersT T) : withoutT T a = T := by
  rw [mem_ownersT] at h
  refine tblEq.2 ⟨rfl, ?_⟩
  show keptR T a = T.rows
  unfold keptR
  rw [List.filter_eq_self]
  intro r hr
  cases hp : T.sch.pub
  · simp only [stays, Bool.false_or, bne_iff_ne]
    exact fun e => h ⟨hp, r, hr, e⟩
  · rfl
theorem withoutT_comm (T : Tbl) (a c : Int) : withoutT (withoutT T a) c = withoutT (withoutT T c) a := by
  refine tblEq.2 ⟨rfl, ?_⟩
  show (T.rows.filter (stays T.sch.pub a)).filter (stays T.sch.pub c) = (T.rows.filter (stays T.sch.pub c)).filter (stays T.sch.pub a)
  rw [List.filter_filter, List.filter_filter]
  congr 1
  funext r
  exact Bool.and_comm _ _
theorem mem_ownersOf {ts : List Tbl} {o : Int} : o ∈ ownersOf ts ↔ ∃ T ∈ ts, o ∈ ownersT T := by unfold ownersOf; exact List.mem_flatMap
theorem mem_ownersOf_without {ts : List Tbl} {a o : Int} : o ∈ ownersOf (withoutB ts a) ↔ o ∈ ownersOf ts ∧ o ≠ a := by
  rw [mem_ownersOf, mem_ownersOf]
  unfold withoutB
  constructor
  · rintro ⟨U, hU, ho⟩
    obtain ⟨T, hT, rfl⟩ := List.mem_map.1 hU
    obtain ⟨h1, h2⟩ := mem_ownersT_without.1 ho
    exact ⟨⟨T, hT, h1⟩, h2⟩
  · rintro ⟨⟨T, hT, h1⟩, h2⟩
    exact ⟨_, List.mem_map.2 ⟨T, hT, rfl⟩, mem_ownersT_without.2 ⟨h1, h2⟩⟩
theorem withoutB_comm (ts : List Tbl) (a c : Int) : withoutB (withoutB ts a) c = withoutB (withoutB ts c) a := by
  unfold withoutB
  rw [List.map_map, List.map_map]
  exact List.map_congr_left fun T _ => withoutT_comm T a c
/-- What lacks an owner that the other has is another. -/
theorem ne_of_owner {ts us : List Tbl} {a : Int} (h1 : a ∈ ownersOf ts) (h2 : a ∉ ownersOf us) : eqB us ts = false := eqB_false fun e => h2 (e ▸ h1)
theorem ne_of_ownerT {T U : Tbl} {a : Int} (h1 : a ∈ ownersT T) (h2 : a ∉ ownersT U) : eqB U T = false := eqB_false fun e => h2 (e ▸ h1)
theorem ne_of_owner' {ts us : List Tbl} {a : Int} (h1 : a ∈ ownersOf ts) (h2 : a ∉ ownersOf us) : eqB ts us = false := eqB_false fun e => h2 (e ▸ h1)
theorem ne_of_ownerT' {T U : Tbl} {a : Int} (h1 : a ∈ ownersT T) (h2 : a ∉ ownersT U) : eqB T U = false := eqB_false fun e => h2 (e ▸ h1)
theorem differB_self (ts : List Tbl) : differB ts ts = (0, false) := by
  have h : ∀ o ∈ asc (ownersOf ts), (fun o => eqB (withoutB ts o) ts) o = false := fun o ho => ne_of_owner (mem_asc.1 ho) (fun h => (mem_ownersOf_without.1 h).2 rfl)
  rw [differB_eq, stepP_none _ _ h, stepP_none _ _ h]
theorem differB_without {ts : List Tbl} {a : Int} (ha : a ∈ ownersOf ts) : differB ts (withoutB ts a) = (a, true) ∧ differB (withoutB ts a) ts = (a, true) := by
  have h1 : ∀ o ∈ asc (ownersOf ts), o ≠ a → (fun o => eqB (withoutB ts o) (withoutB ts a)) o = false := fun o _ hne => ne_of_owner' (mem_ownersOf_without.2 ⟨ha, fun e => hne e.symm⟩) (fun h => (mem_ownersOf_without.1 h).2 rfl)
  have h2 : ∀ o ∈ asc (ownersOf (withoutB ts a)), (fun o => eqB (withoutB (withoutB ts a) o) ts) o = false := fun o _ => ne_of_owner ha (fun h => (mem_ownersOf_without.1 (mem_ownersOf_without.1 h).1).2 rfl)
  have h3 : (fun o => eqB (withoutB ts o) (withoutB ts a)) a = true := eqB_true rfl
  constructor
  · rw [differB_eq, stepP_one (asc_sorted _) (mem_asc.2 ha) h3 h1, stepP_none _ _ h2]
  · rw [differB_eq, stepP_none _ _ h2, stepP_one (asc_sorted _) (mem_asc.2 ha) h3 h1]
theorem differB_two {ts : List Tbl} {a c : Int} (ha : a ∈ ownersOf ts) (hc : c ∈ ownersOf ts) (hne : c ≠ a) : differB ts (withoutB (withoutB ts a) c) = (0, false) := by
  have h1 : ∀ o ∈ asc (ownersOf ts), (fun o => eqB (withoutB ts o) (withoutB (withoutB ts a) c)) o = false := fun o _ => by
    by_cases e : o = a
    · subst e
      exact ne_of_owner' (mem_ownersOf_without.2 ⟨hc, hne⟩) (fun h => (mem_ownersOf_without.1 h).2 rfl)
    · exact ne_of_owner' (mem_ownersOf_without.2 ⟨ha, fun x => e x.symm⟩) (fun h => (mem_ownersOf_without.1 (mem_ownersOf_without.1 h).1).2 rfl)
  have h2 : ∀ o ∈ asc (ownersOf (withoutB (withoutB ts a) c)), (fun o => eqB (withoutB (withoutB (withoutB ts a) c) o) ts) o = false := fun o _ =>
    ne_of_owner ha (fun h => (mem_ownersOf_without.1 (mem_ownersOf_without.1 (mem_ownersOf_without.1 h).1).1).2 rfl)
  rw [differB_eq, stepP_none _ _ h1, stepP_none _ _ h2]
/-- A table and the table without an owner. -/
theorem differT_without (T : Tbl) (a : Int) : (a ∈ ownersT T → differT T (withoutT T a) = (a, true) ∧ withoutT T a ≠ T) ∧ (a ∉ ownersT T → differT T (withoutT T a) = (0, false) ∧ withoutT T a = T) := by
  refine ⟨fun ha => ?_, fun ha => ?_⟩
  · have h1 : ∀ o ∈ asc (ownersT T), o ≠ a → (fun o => eqB (withoutT T o) (withoutT T a)) o = false := fun o _ hne => ne_of_ownerT' (mem_ownersT_without.2 ⟨ha, fun e => hne e.symm⟩) (fun h => (mem_ownersT_without.1 h).2 rfl)
    have h2 : ∀ o ∈ asc (ownersT (withoutT T a)), (fun o => eqB (withoutT (withoutT T a) o) T) o = false := fun o _ => ne_of_ownerT ha (fun h => (mem_ownersT_without.1 (mem_ownersT_without.1 h).1).2 rfl)
    have h3 : (fun o => eqB (withoutT T o) (withoutT T a)) a = true := eqB_true rfl
    refine ⟨by rw [differT_eq, stepP_one (asc_sorted _) (mem_asc.2 ha) h3 h1, stepP_none _ _ h2], fun e => ?_⟩
    have := mem_ownersT_without.1 (show a ∈ ownersT (withoutT T a) by rw [e]; exact ha)
    exact this.2 rfl
  · have e := withoutT_self ha
    refine ⟨?_, e⟩
    rw [e]
    have h : ∀ o ∈ asc (ownersT T), (fun o => eqB (withoutT T o) T) o = false := fun o ho => ne_of_ownerT (mem_asc.1 ho) (fun h => (mem_ownersT_without.1 h).2 rfl)
    rw [differT_eq, stepP_none _ _ h, stepP_none _ _ h]
end Go.Proofs.YtlocafmglficnaaGreatDoor
