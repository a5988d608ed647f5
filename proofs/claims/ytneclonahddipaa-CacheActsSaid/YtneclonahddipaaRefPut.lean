/- The reference's Put: what is appended, what it leaves. -/
import Derived.Test.YtneclonahddipaaRefGrantB
import Derived.Test.YtneclonahddipaaOpen
import Derived.OwnWalkIn
namespace Go.Proofs.Ytneclonahddipaa
open Go.RowKit Go.Maps Go.Sort Go.Shelf

/-- A slice whose elements are read. -/
def Src (w : World) (size : Nat) (sv : Value) (m : Nat) (news : List Value) : Prop :=
  news.length = m * size ∧ ((∃ c, sv = .slice none 0 c ∧ m = 0) ∨ ∃ ad c, sv = .slice (some ad) m c ∧ ∀ j u, news[j]? = some u → w.cell? (ad.add j) = some u)

theorem run_append_empty {P : Program} (w : World) (base : Nat) (t ty e : TypeId) (i : TypeInfo) (size : Nat) (ht : P.underlying t = some (.slice e)) (hi : P.info? e = some i) (hsize : i.size = size)
    (v : Value) (n : Nat) (xs : List Value) (hown : w.ownsRow base e size v n xs) (c : Nat) : (Builtin.append_ #[t, t] ty #[v, .slice none 0 c]).run P w = .ok v w := by
  subst hsize
  rcases hown.2 with ⟨rfl, rfl⟩ | ⟨g, cap, cur, rfl, hbg, hg, hnc, hcm, hcs, htake⟩
  · simp [Builtin.append_, run_underlying ht, sizeOf, typeInfo, hi, Builtin.lenOf, Builtin.firstCells, loadCells, loadCellsFrom]
  · simp [Builtin.append_, run_underlying ht, sizeOf, typeInfo, hi, Builtin.lenOf, Builtin.firstCells, loadCells, loadCellsFrom, hnc, storeCells]

theorem wpListIn_append_src {F : Fence} {n : Nat} {P : Program} (w : World) {ops : Array Oper} {rest : List Oper} {o : Oper} {a : Act} {Q : Exit → Act → World → Prop}
    (hg : o.guard = none) (s x : Operand) (t : TypeId) (hop : o.op = Op.call { callee := Callee.builtin Builtin.append, args := #[s, x], argTypes := #[t, t] })
    (base : Nat) (e : TypeId) (i : TypeInfo) (z : Value) (size bytes : Nat) (h1 : P.underlying t = some (.slice e)) (h2 : P.info? e = some i) (h3 : i.zero = some z) (h4 : i.size = size) (h5 : i.bytes = bytes) (h6 : z.cells.size = size) (h7 : 0 < size)
    (v : Value) (k : Nat) (xs : List Value) (hs : a.eval s = v) (hown : w.ownsRow base e size v k xs) (sv : Value) (m : Nat) (news : List Value) (hx : a.eval x = sv) (hsrc : Src w size sv m news)
    (h1c : ∀ u ∈ news, u.oneCell' = true) (b1 : k + m ≤ maxLen) (b2 : (k + m) * bytes ≤ 140737488355328) (b3 : base ≤ w.heap.size)
    (hK : ∀ v' w', w'.ownsRow base e size v' (k + m) (xs ++ news) → w.grownBy w' v.ownBlock → wpListIn F n P ops Q rest (a.put o.dst v') w') :
    wpListIn F n P ops Q (o :: rest) a w := by
  rcases hsrc with ⟨hl, ⟨c, rfl, rfl⟩ | ⟨ad, c, rfl, hc⟩⟩
  · have hn : news = [] := List.eq_nil_of_length_eq_zero (by simpa using hl)
    subst hn
    refine wpListIn_plain hg fun K hK' => ?_
    have hrun := run_append_empty (P := P) w base t o.type e i size h1 h2 h4 v k xs hown c
    unfold Oper.wpIn
    refine ⟨?_, ?_⟩
    · simp [Oper.about, hop, resolve, Target.leads, Sem.run_pure]
    · rw [Oper.semAt_plain F _ _ (by rw [hop]; intro c hc'; cases hc')]
      simp [execOp, hop, resolve, invoke, builtin, hs, hx, hrun, Result.andThen]
      exact hK' _ _ (hK v w (by simpa using hown) ⟨rfl, rfl, rfl, Nat.le_refl _, fun _ _ _ => rfl⟩)
  · exact wpListIn_append_own w hg s x t hop base e i z size bytes h1 h2 h3 h4 h5 h6 h7 v k xs hs hown ad m c news hx hl hc h1c b1 b2 b3 fun v' w' r1 r2 _ => hK v' w' r1 r2

theorem ownsRow_base_le {w : World} {b b' : Nat} {e : TypeId} {size : Nat} {v : Value} {n : Nat} {xs : List Value} (h : w.ownsRow b e size v n xs) (hb : b' ≤ b) : w.ownsRow b' e size v n xs := by
  refine ⟨h.1, ?_⟩
  rcases h.2 with h | ⟨g, cap, cur, e1, e2, e3⟩
  · exact .inl h
  · exact .inr ⟨g, cap, cur, e1, Nat.le_trans hb e2, e3⟩

theorem ins_get (es : List Ent) (k : Nat) (e : Ent) (hk : k ≤ es.length) (j : Nat) (x : Ent) (h : (es.take k ++ e :: es.drop k)[j]? = some x) : (j = k ∧ x = e) ∨ (j ≠ k ∧ es[if j < k then j else j - 1]? = some x) := by
  rcases Nat.lt_trichotomy j k with hj | rfl | hj
  · rw [List.getElem?_append_left (by simp; omega), List.getElem?_take, if_pos hj] at h
    exact .inr ⟨by omega, by rw [if_pos hj]; exact h⟩
  · rw [List.getElem?_append_right (by simp; omega)] at h
    have : j - (es.take j).length = 0 := by simp; omega
    rw [this] at h
    exact .inl ⟨rfl, by simpa using h.symm⟩
  · rw [List.getElem?_append_right (by simp; omega)] at h
    have : j - (es.take k).length = (j - 1 - k) + 1 := by simp; omega
    rw [this, List.getElem?_cons_succ, List.getElem?_drop] at h
    refine .inr ⟨by omega, ?_⟩
    rw [if_neg (by omega), ← h]
    congr 1
    omega

/-- What is left behind the store. -/
theorem put_fin {base p k : Nat} {w w3 : World} {E v3 : Value} {es : List Ent} {key text : ByteArray} (HI : IsRef base w p E es) (hbp : base ≤ p) (hk : k ≤ es.length) (hkey : key.size ≤ maxLen) (htext : text.size ≤ maxLen)
    (hB : Below w.heap.size w w3) (hrow : w3.ownsRow w.heap.size 66 3 v3 (k + 1 + (es.length - k)) (((es.take k).flatMap Ent.cells ++ [.string key, .string text, .slice none 0 0]) ++ (es.drop k).flatMap Ent.cells)) :
    IsRef base (w3.setCell ⟨p, 0, none⟩ v3) p v3 (es.take k ++ ⟨key, text, .slice none 0 0, []⟩ :: es.drop k) ∧ RefTurn base p w (w3.setCell ⟨p, 0, none⟩ v3) := by
  have hp := HI.box.lt
  have hlen : k + 1 + (es.length - k) = (es.take k ++ (⟨key, text, .slice none 0 0, []⟩ : Ent) :: es.drop k).length := by simp; omega
  have hcells : ((es.take k).flatMap Ent.cells ++ [.string key, .string text, .slice none 0 0]) ++ (es.drop k).flatMap Ent.cells = (es.take k ++ (⟨key, text, .slice none 0 0, []⟩ : Ent) :: es.drop k).flatMap Ent.cells := by
    rw [List.flatMap_append, List.flatMap_cons]; simp [Ent.cells]
  rw [hlen, hcells] at hrow
  have hgs := grownBy_setCell' w3 p v3
  have hset : ∀ j, j < w.heap.size → j ≠ p → (w3.setCell ⟨p, 0, none⟩ v3).heap[j]? = w.heap[j]? := fun j hj hne => (Below.heap_setCell _ _ _ _ hne).trans (hB.block j hj)
  have hrowlt : v3.ownBlock = none ∨ v3.ownBlock ≠ some p := by
    rcases hrow.2 with ⟨rfl, _⟩ | ⟨g, cap, cur, rfl, hbg, _⟩
    · exact .inl rfl
    · refine .inr fun e => ?_
      simp only [Value.ownBlock, Option.some.injEq] at e
      omega
  have hnsK : ∀ (i : Nat) (e : Ent), es[i]? = some e → (w3.setCell ⟨p, 0, none⟩ v3).ownsRow base 9 1 e.ns e.names.length (e.names.map Value.string) := by
    intro i e he
    have h0 := HI.ns i e he
    refine (h0.kept (grown_none hB none) (by cases e.ns.ownBlock <;> simp)).kept hgs ?_
    cases hb : e.ns.ownBlock with
    | none => exact .inl rfl
    | some gb =>
      refine .inr fun e' => ?_
      simp only [Option.some.injEq] at e'
      subst e'
      obtain ⟨_, cur, hc⟩ := ownBlock_some h0 hb
      rw [show w.heap[gb]? = _ from HI.box] at hc; cases hc
  refine ⟨⟨?_, ?_, ?_, ?_, ?_⟩, ⟨?_, ?_, ?_⟩⟩
  · exact Boxed.set (t := 63) v3 (show Boxed w3 p 63 E from (hB.block p hp).trans HI.box)
  · exact ownsRow_base_le (hrow.kept hgs hrowlt) (by omega)
  · intro j e he
    rcases ins_get es k _ hk j e he with ⟨_, rfl⟩ | ⟨_, he⟩
    · exact World.ownsRow_nil _ _ _ _
    · exact hnsK _ e he
  · intro i j a b ha hb hne
    rcases ins_get es k _ hk i a ha with ⟨_, rfl⟩ | ⟨h1, ha⟩
    · exact .inl rfl
    · rcases ins_get es k _ hk j b hb with ⟨_, rfl⟩ | ⟨h2, hb⟩
      · cases hab : a.ns.ownBlock with
        | none => exact .inl rfl
        | some g => exact .inr (by simp [Value.ownBlock])
      · refine HI.dis _ _ a b ha hb ?_
        split <;> split <;> omega
  · intro j e he
    rcases ins_get es k _ hk j e he with ⟨_, rfl⟩ | ⟨_, he⟩
    · exact ⟨hkey, htext, fun n hn => by simp at hn⟩
    · exact HI.ok _ e he
  · refine ⟨hB.os.trans rfl, hB.tape.trans rfl, hB.output.trans rfl, by have := hB.size; simp [World.setCell]; omega, fun j hj => hset j (by omega) (by omega)⟩
  · have := hB.size; simp [World.setCell]; omega
  · exact fun j hj hne _ => hset j hj hne
end Go.Proofs.Ytneclonahddipaa
