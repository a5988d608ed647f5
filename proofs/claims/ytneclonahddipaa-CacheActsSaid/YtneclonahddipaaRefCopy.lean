/- The reference's Copy, and its Put of a key that lies there: what is left. -/
import Derived.Test.YtneclonahddipaaRefPutWalk
namespace Go.Proofs.Ytneclonahddipaa
open Go.RowKit Go.Maps Go.Sort Go.Shelf

theorem own0g {W : World} {n b : Nat} {e : TypeId} {size : Nat} (hb : n ≤ b) (h : W.heap[b]? = some (.cells #[] e (0, 0))) : W.ownsRow n e size (.slice (some ⟨b, 0, none⟩) 0 0) 0 [] :=
  ⟨by simp, .inr ⟨b, 0, #[], rfl, hb, h, Nat.le_refl _, Nat.zero_le _, by simp, by simp⟩⟩
theorem src_row {w : World} {base : Nat} {e : TypeId} {size n : Nat} {v : Value} {xs : List Value} (h : w.ownsRow base e size v n xs) : Src w size v n xs := by
  refine ⟨h.1, ?_⟩
  rcases h.2 with ⟨rfl, rfl⟩ | ⟨g, cap, cur, rfl, _⟩
  · exact .inl ⟨0, rfl, rfl⟩
  · exact .inr ⟨_, _, rfl, h.cells (g := g) rfl⟩
theorem src58 {W : World} {B : Nat} {key text : ByteArray} {v : Value} (h : W.heap[B]? = some (.cells #[.string key, .string text, v] 66 (0, 0))) : Src W 3 (.slice (some ⟨B, 0, none⟩) 1 1) 1 [.string key, .string text, v] :=
  ⟨rfl, .inr ⟨_, _, rfl, fun j u hu => World.news_of_block h j u hu⟩⟩
theorem one58 (key text : ByteArray) (A : Option Addr) (n c : Nat) : ∀ u ∈ [Value.string key, .string text, .slice A n c], u.oneCell' = true := by
  intro u hu
  simp at hu
  rcases hu with rfl | rfl | rfl <;> rfl

theorem copy_fin {N : Nat} {wr W4 w5 : World} {E v49 v46 : Value} {es : List Ent} {key text : ByteArray} {names : List ByteArray} (HI : IsRef N wr N E es) (hkey : key.size ≤ maxLen) (htext : text.size ≤ maxLen) (hnames : ∀ n ∈ names, n.size ≤ maxLen)
    (hB : Below wr.heap.size wr W4) (h46 : W4.ownsRow wr.heap.size 9 1 v46 names.length (names.map Value.string)) (hgrow : W4.grownBy w5 E.ownBlock)
    (h49 : w5.ownsRow N 66 3 v49 (es.length + 1) (es.flatMap Ent.cells ++ [.string key, .string text, v46])) :
    IsRef N (w5.setCell ⟨N, 0, none⟩ v49) N v49 (es ++ [⟨key, text, v46, names⟩]) := by
  have hN := HI.box.lt
  have b4 : Boxed W4 N 63 E := (hB.block N hN).trans HI.box
  have row4 : W4.ownsRow N 66 3 E es.length (es.flatMap Ent.cells) := HI.row.kept (grown_none hB none) (by cases E.ownBlock <;> simp)
  have b5 : Boxed w5 N 63 E := b4.kept hgrow (b4.not_row (by decide) row4)
  have hgs := grownBy_setCell' w5 N v49
  -- rows of names stay
  have keepN : ∀ {n : Nat} {v : Value} {k : Nat} {xs : List Value}, W4.ownsRow n 9 1 v k xs → (w5.setCell ⟨N, 0, none⟩ v49).ownsRow n 9 1 v k xs := by
    intro n v k xs h0
    have h5 : w5.ownsRow n 9 1 v k xs := by
      refine h0.kept hgrow ?_
      cases hb : v.ownBlock with
      | none => exact .inl rfl
      | some g =>
        refine .inr fun e => ?_
        obtain ⟨_, cur, hc⟩ := ownBlock_some h0 hb
        obtain ⟨_, cur2, hc2⟩ := ownBlock_some row4 e.symm
        rw [hc] at hc2; cases hc2
    refine h5.kept hgs ?_
    cases hb : v.ownBlock with
    | none => exact .inl rfl
    | some g =>
      refine .inr fun e => ?_
      obtain ⟨_, cur, hc⟩ := ownBlock_some h5 hb
      simp only [Option.some.injEq] at e
      subst e
      rw [show w5.heap[g]? = _ from b5] at hc; cases hc
  have get : ∀ (i : Nat) (e : Ent), (es ++ [⟨key, text, v46, names⟩])[i]? = some e → (i < es.length ∧ es[i]? = some e) ∨ (i = es.length ∧ e = ⟨key, text, v46, names⟩) := by
    intro i e h
    rcases Nat.lt_trichotomy i es.length with hi | hi | hi
    · rw [List.getElem?_append_left hi] at h; exact .inl ⟨hi, h⟩
    · subst hi; rw [List.getElem?_append_right (Nat.le_refl _)] at h; exact .inr ⟨rfl, by simpa using h.symm⟩
    · rw [List.getElem?_eq_none (by simp; omega)] at h; cases h
  refine ⟨Boxed.set v49 b5, ?_, ?_, ?_, ?_⟩
  · rw [show (es ++ [(⟨key, text, v46, names⟩ : Ent)]).length = es.length + 1 by simp, List.flatMap_append]
    refine World.ownsRow.kept (show w5.ownsRow N 66 3 v49 (es.length + 1) _ from ?_) hgs ?_
    · simpa [Ent.cells] using h49
    · cases hb : v49.ownBlock with
      | none => exact .inl rfl
      | some g => exact .inr fun e => b5.not_row (by decide) h49 (by rw [hb]; exact e.symm)
  · intro i e he
    rcases get i e he with ⟨_, he⟩ | ⟨_, rfl⟩
    · exact keepN ((HI.ns i e he).kept (grown_none hB none) (by cases e.ns.ownBlock <;> simp))
    · exact ownsRow_base_le (keepN h46) (by omega)
  · intro i j a b ha hb hne
    have old : ∀ (i : Nat) (a : Ent) (g : Nat), es[i]? = some a → a.ns.ownBlock = some g → g < wr.heap.size := fun i a g ha hg => (HI.ns i a ha).lt g hg |>.2
    have new : ∀ g, v46.ownBlock = some g → wr.heap.size ≤ g := fun g hg => (h46.lt g hg).1
    rcases get i a ha with ⟨_, ha⟩ | ⟨_, rfl⟩
    · rcases get j b hb with ⟨_, hb⟩ | ⟨_, rfl⟩
      · exact HI.dis i j a b ha hb hne
      · cases hg : a.ns.ownBlock with
        | none => exact .inl rfl
        | some g => exact .inr fun e => by have h1 := old i a g ha hg; have h2 := new g e.symm; omega
    · rcases get j b hb with ⟨_, hb⟩ | ⟨h2, rfl⟩
      · cases hg : v46.ownBlock with
        | none => exact .inl rfl
        | some g => exact .inr fun e => by have h1 := new g hg; have h2 := old j b g hb e.symm; omega
      · omega
  · intro i e he
    rcases get i e he with ⟨_, he⟩ | ⟨_, rfl⟩
    · exact HI.ok i e he
    · exact ⟨hkey, htext, hnames⟩

theorem copy_below {N : Nat} {w wr W4 w5 : World} {E v49 : Value} {es : List Ent} (hBw : Below N w wr) (hw : w.heap.size = N) (HI : IsRef N wr N E es) (hB : Below wr.heap.size wr W4) (hgrow : W4.grownBy w5 E.ownBlock) : Below N w (w5.setCell ⟨N, 0, none⟩ v49) := by
  have hN := HI.box.lt
  have hs4 := hB.size
  have hs5 := hgrow.size
  refine ⟨hgrow.os.trans (hB.os.trans hBw.os), hgrow.tape.trans (hB.tape.trans hBw.tape), hgrow.output.trans (hB.output.trans hBw.output), by simp [World.setCell]; omega, fun k hk => ?_⟩
  refine (Below.heap_setCell _ _ _ _ (show k ≠ N by omega)).trans ((hgrow.block k (by omega) fun e => ?_).trans ((hB.block k (by omega)).trans (hBw.block k hk)))
  have := (HI.row.lt k e.symm).1
  omega
end Go.Proofs.Ytneclonahddipaa
