/- The reference's cache in memory: its entries, their names. -/
import Derived.Test.YtneclonahddipaaFirstList
import Derived.Shelf.SlIter.Collect
namespace Go.Proofs.Ytneclonahddipaa
open Go.RowKit Go.Maps Go.Sort Go.Shelf

structure Ent where
  key : ByteArray
  text : ByteArray
  ns : Value
  names : List ByteArray
instance : Inhabited Ent := ⟨⟨s0, s0, .slice none 0 0, []⟩⟩
def Ent.cells (e : Ent) : List Value := [.string e.key, .string e.text, e.ns]
def Ent.ok (e : Ent) : Prop := e.key.size ≤ maxLen ∧ e.text.size ≤ maxLen ∧ ∀ n ∈ e.names, n.size ≤ maxLen

theorem flat_get : ∀ (es : List Ent) (i j : Nat), j < 3 → (es.flatMap Ent.cells)[i * 3 + j]? = (es[i]?).bind fun e => e.cells[j]?
  | [], i, j, _ => by simp
  | e :: es, 0, j, hj => by
    rw [List.flatMap_cons, List.getElem?_append_left (by simp [Ent.cells]; omega)]
    simp
  | e :: es, i + 1, j, hj => by
    rw [List.flatMap_cons, List.getElem?_append_right (by simp [Ent.cells]; omega)]
    have : (i + 1) * 3 + j - e.cells.length = i * 3 + j := by simp [Ent.cells]; omega
    rw [this, flat_get es i j hj]
    simp
theorem flat_length : ∀ (es : List Ent), (es.flatMap Ent.cells).length = es.length * 3
  | [] => rfl
  | e :: es => by
    rw [List.flatMap_cons, List.length_append, flat_length es]
    simp [Ent.cells]; omega

/-- The reference's cache: its struct in block p, the entries' row, the names' rows, which lie apart. -/
structure IsRef (base : Nat) (w : World) (p : Nat) (E : Value) (es : List Ent) : Prop where
  box : Boxed w p 63 E
  row : w.ownsRow base 66 3 E es.length (es.flatMap Ent.cells)
  ns : ∀ (i : Nat) (e : Ent), es[i]? = some e → w.ownsRow base 9 1 e.ns e.names.length (e.names.map Value.string)
  dis : ∀ (i j : Nat) (a b : Ent), es[i]? = some a → es[j]? = some b → i ≠ j → a.ns.ownBlock = none ∨ a.ns.ownBlock ≠ b.ns.ownBlock
  ok : ∀ (i : Nat) (e : Ent), es[i]? = some e → e.ok

theorem addr_add3 (b o j : Nat) : (⟨b, o, none⟩ : Addr).add j = ⟨b, o + j, none⟩ := by unfold Addr.add; split <;> simp_all

theorem ownBlock_some {w : World} {base n : Nat} {e : TypeId} {size : Nat} {v : Value} {xs : List Value} (h : w.ownsRow base e size v n xs) {g : Nat} (hg : v.ownBlock = some g) : base ≤ g ∧ ∃ cur, w.heap[g]? = some (.cells cur e (0, 0)) := by
  rcases h.2 with ⟨rfl, _⟩ | ⟨g1, cap, cur, rfl, hb, hgb, _⟩
  · simp [Value.ownBlock] at hg
  · simp only [Value.ownBlock, Option.some.injEq] at hg
    subst hg
    exact ⟨hb, cur, hgb⟩

/-- It stays where what turns is no block of its own. -/
theorem IsRef.kept {base : Nat} {w w' : World} {p : Nat} {E : Value} {es : List Ent} {row : Option Nat} (h : IsRef base w p E es) (hg : w.grownBy w' row)
    (hr : ∀ r, row = some r → r ≠ p ∧ ∀ cur t, w.heap[r]? = some (.cells cur t (0, 0)) → t ≠ 66 ∧ t ≠ 9) : IsRef base w' p E es := by
  have key : ∀ {e n size v xs}, w.ownsRow base e size v n xs → (e = 66 ∨ e = 9) → w'.ownsRow base e size v n xs := by
    intro e n size v xs ho he
    refine ho.kept hg ?_
    cases hb : v.ownBlock with
    | none => exact .inl rfl
    | some g =>
      refine .inr fun e' => ?_
      obtain ⟨_, cur, hc⟩ := ownBlock_some ho hb
      obtain ⟨_, h2⟩ := hr g e'.symm
      have := h2 cur e hc
      rcases he with rfl | rfl
      · exact this.1 rfl
      · exact this.2 rfl
  exact ⟨h.box.kept hg (fun e => (hr p e.symm).1 rfl), key h.row (.inl rfl), fun i e he => key (h.ns i e he) (.inr rfl), h.dis, h.ok⟩
theorem IsRef.later {base : Nat} {w w' : World} {p : Nat} {E : Value} {es : List Ent} (h : IsRef base w p E es) (hb : Below w.heap.size w w') : IsRef base w' p E es :=
  h.kept (grown_none hb none) (fun r e => by cases e)

theorem IsRef.slice {base : Nat} {w : World} {p : Nat} {E : Value} {es : List Ent} (h : IsRef base w p E es) : ∃ A cap, E = .slice A es.length cap := by
  rcases h.row.2 with ⟨rfl, hz⟩ | ⟨g, cap, cur, rfl, _⟩
  · exact ⟨none, 0, by rw [hz]⟩
  · exact ⟨_, _, rfl⟩
/-- Entry i. -/
theorem IsRef.ent {base : Nat} {w : World} {p : Nat} {A : Option Addr} {n cap : Nat} {es : List Ent} (h : IsRef base w p (.slice A n cap) es) {i : Nat} (hi : i < es.length) :
    ∃ g, A = some ⟨g, 0, none⟩ ∧ base ≤ g ∧ g < w.heap.size ∧ g ≠ p ∧ w.cell? ⟨g, i * 3, none⟩ = some (.string (es[i]?.getD default).key) ∧ w.cell? ⟨g, i * 3 + 1, none⟩ = some (.string (es[i]?.getD default).text) ∧ w.cell? ⟨g, i * 3 + 2, none⟩ = some (es[i]?.getD default).ns := by
  rcases h.row.2 with ⟨_, hz⟩ | ⟨g, cap', cur, e, hb, hgb, _⟩
  · omega
  · injection e with e1 e2 e3
    subst e1
    have hne : g ≠ p := fun e => by
      have := h.box
      rw [← e] at this
      rw [show w.heap[g]? = _ from this] at hgb
      cases hgb
    have hcell : ∀ j, j < 3 → w.cell? ⟨g, i * 3 + j, none⟩ = (es[i]?.getD default).cells[j]? := by
      intro j hj
      have hg := flat_get es i j hj
      rw [List.getElem?_eq_getElem hi] at hg ⊢
      simp only [Option.bind_some, Option.getD_some] at hg ⊢
      have hlt : j < es[i].cells.length := by simpa [Ent.cells] using hj
      rw [List.getElem?_eq_getElem hlt] at hg ⊢
      have := h.row.cells (g := g) rfl _ _ hg
      rwa [addr_add3, Nat.zero_add] at this
    exact ⟨g, rfl, hb, (Array.getElem?_eq_some_iff.1 hgb).1, hne, hcell 0 (by omega), hcell 1 (by omega), hcell 2 (by omega)⟩

/-- The first index of a key, or -1. -/
def findI (es : List Ent) (k : ByteArray) : Int := match es.findIdx? (fun e => decide (e.key = k)) with | some i => (i : Int) | none => -1
theorem findI_none {es : List Ent} {k : ByteArray} (h : ∀ m, m < es.length → (es[m]?.getD default).key ≠ k) : findI es k = -1 := by
  unfold findI
  rw [List.findIdx?_eq_none_iff.2]
  intro x hx
  obtain ⟨m, hm, rfl⟩ := List.getElem_of_mem hx
  have := h m hm
  simp [hm] at this
  simpa using this
theorem findI_some {es : List Ent} {k : ByteArray} {i : Nat} (hi : i < es.length) (h : ∀ m, m < i → (es[m]?.getD default).key ≠ k) (hk : (es[i]?.getD default).key = k) : findI es k = (i : Int) := by
  unfold findI
  rw [(List.findIdx?_eq_some_iff_getElem (i := i)).2 ⟨hi, by simp [hi] at hk; simpa using hk, fun j hj => by
    have := h j hj
    have hj' : j < es.length := by omega
    simp [hj'] at this
    simpa using this⟩]

set_option maxHeartbeats 1000000 in
theorem find_any (base p : Nat) (E : Value) (es : List Ent) (k : ByteArray) (w : World) (h : IsRef base w p E es) (hl : es.length ≤ 1000000) : Calls Try.prog 33 #[.pointer (some ⟨p, 0, none⟩), .string k] w fun e w' => e = .returned (.int .i64 (findI es k)) ∧ w = w' := by
  obtain ⟨A, cap, rfl⟩ := h.slice
  have cb := h.box.cell
  have HI := Lib.hid h
  clear h
  go_enter Try.func33, Try.ntmps33
  go_wp2
  go_loop [5] (fun i => ∃ j : Nat, j ≤ es.length ∧ i = .int .i64 (j : Int) ∧ ∀ m, m < j → (es[m]?.getD default).key ≠ k) (fun i => es.length - (intOf i).toNat)
  case atStart => exact ⟨0, Nat.zero_le _, rfl, fun m hm => by omega⟩
  case round =>
    obtain ⟨j, hj, rfl, hno⟩ := hrel
    have HNO := Lib.hid hno
    clear hno
    rcases Nat.lt_or_ge j es.length with hlt | hge
    · obtain ⟨g, rfl, _, _, _, c0, _, _⟩ := HI.out.ent hlt
      have hi0 : (0 : Int) ≤ (j : Int) := by omega
      have hi1 : (j : Int) < (es.length : Int) := by omega
      by_cases hk : (es[j]?.getD default).key = k
      · have HF := Lib.hid (findI_some hlt HNO.out hk)
        rw [hk] at c0
        clear hk
        go_wp2
        go_ret
        exact ⟨by rw [HF.out]; rfl, rfl⟩
      · have hne := toList_beq_false hk
        have HN := Lib.hid (show ∀ m, m < j + 1 → (es[m]?.getD default).key ≠ k from fun m hm => by
          rcases Nat.lt_or_ge m j with h | h
          · exact HNO.out m h
          · obtain rfl : m = j := by omega
            exact hk)
        clear hk
        generalize (es[j]?.getD default).key = kk at *
        go_wp2
        go_round
        case rel => exact ⟨j + 1, by omega, by simp, HN.out⟩
        case measure => simp [intOf]; omega
    · have hge' : ¬ ((j : Int) < (es.length : Int)) := by omega
      have HF := Lib.hid (findI_none (es := es) (k := k) fun m hm => HNO.out m (by omega))
      go_wp2
      go_ret
      exact ⟨by rw [HF.out]; rfl, rfl⟩
end Go.Proofs.Ytneclonahddipaa
