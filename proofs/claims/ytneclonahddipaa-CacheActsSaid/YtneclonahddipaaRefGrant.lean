/- The reference's Grant. -/
import Derived.Test.YtneclonahddipaaRefLists
import Derived.Deep.RegionHeld3
import Derived.Deep.RegionLaw
import Derived.Deep.AppendLies
namespace Go.Proofs.Ytneclonahddipaa
open Go.RowKit Go.Maps Go.Sort Go.Shelf

theorem step_append_own {P : Program} {ops : Array Oper} {o : Oper} {a : Act} {w : World} {K : Act → World → Prop} {Q : Exit → Act → World → Prop} {E : Prop} (hgd : o.guard = none) (s x : Operand) (t : TypeId)
    (ho : o.op = .call { callee := .builtin .append, args := #[s, x], argTypes := #[t, t] })
    (base : Nat) (e : TypeId) (i : TypeInfo) (z : Value) (size bytes : Nat) (ht : P.underlying t = some (.slice e)) (hi : P.info? e = some i) (hz : i.zero = some z)
    (hsize : i.size = size) (hby : i.bytes = bytes) (hzs : z.cells.size = size) (hsz : 0 < size)
    (v : Value) (n : Nat) (xs : List Value) (hs : a.eval s = v) (hown : w.ownsRow base e size v n xs)
    (ad : Addr) (m c : Nat) (news : List Value) (hx : a.eval x = .slice (some ad) m c) (hl : news.length = m * size) (hnews : ∀ j u, news[j]? = some u → w.cell? (ad.add j) = some u) (h1 : ∀ u ∈ news, u.oneCell' = true)
    (h63 : n + m ≤ maxLen) (hbytes : (n + m) * bytes ≤ 140737488355328) (hbase : base ≤ w.heap.size)
    (h : ∀ v' w', w'.ownsRow base e size v' (n + m) (xs ++ news) → w.grownBy w' v.ownBlock → (v' = .slice none 0 0 ↔ v = .slice none 0 0 ∧ m = 0) → K (a.put o.dst v') w') :
    if Region.wanted o (yielded ops a.tmps) = true then Oper.wp P o a w K Q else E := by
  have hw : Region.wanted o (yielded ops a.tmps) = true := by simp [Region.wanted, hgd]
  rw [if_pos hw]
  exact wp_append_own w s x t ho base e i z size bytes ht hi hz hsize hby hzs hsz v n xs hs hown ad m c news hx hl hnews h1 h63 hbytes hbase h

theorem cell_one_drew (w : World) (x : Value) (t : TypeId) : ∀ j u, [x][j]? = some u → (w.alloc (.cells #[x] t)).drew.cell? ((⟨w.heap.size, 0, none⟩ : Addr).add j) = some u := cell_one_new w x t
theorem slice_of9 {w : World} {base e n : Nat} {v : Value} {xs : List Value} (h : w.ownsRow base e 1 v n xs) : ∃ A c, v = .slice A n c := by
  rcases h.2 with ⟨e1, rfl⟩ | ⟨g, cap, cur, e1, _⟩
  · exact ⟨_, _, e1⟩
  · exact ⟨_, _, e1⟩

/-- What the reference's cache turns: its own struct, rows of entries and of names. -/
structure RefTurn (base p : Nat) (w w' : World) : Prop where
  below : Below base w w'
  size : w.heap.size ≤ w'.heap.size
  block : ∀ k, k < w.heap.size → k ≠ p → (∀ cur t, w.heap[k]? = some (.cells cur t (0, 0)) → t ≠ 66 ∧ t ≠ 9) → w'.heap[k]? = w.heap[k]?

theorem flat_set : ∀ (es : List Ent) (i : Nat) (e : Ent) (v : Value), es[i]? = some e → ((es.set i { e with ns := v }).flatMap Ent.cells) = (es.flatMap Ent.cells).set (i * 3 + 2) v
  | [], _, _, _, h => by simp at h
  | x :: es, 0, e, v, h => by
    simp only [List.getElem?_cons_zero, Option.some.injEq] at h
    subst h
    simp [Ent.cells]
  | x :: es, i + 1, e, v, h => by
    have ih := flat_set es i e v (by simpa using h)
    rw [List.set_cons_succ, List.flatMap_cons, ih, List.flatMap_cons]
    rw [show (i + 1) * 3 + 2 = x.cells.length + (i * 3 + 2) by simp [Ent.cells]; omega, List.set_append_right _ _ (by omega)]
    simp
theorem grant_fin {base p g cap i gg c9 : Nat} {w w1 : World} {o : Obj} {es : List Ent} {kk tt a : ByteArray} {nn : Value} {nms : List ByteArray} (HI : IsRef base w p (.slice (some ⟨g, 0, none⟩) es.length cap) es)
    (hi : es[i]? = some ⟨kk, tt, nn, nms⟩) (ha : a.size ≤ maxLen) (hb0 : base ≤ p) (hgrow : ((w.alloc o).drew).grownBy w1 nn.ownBlock)
    (hown1 : w1.ownsRow base 9 1 (.slice (some ⟨gg, 0, none⟩) (nms.length + 1) c9) (nms.length + 1) (nms.map Value.string ++ [.string a])) (hat : nn.ownBlock = some gg ∨ gg = w.heap.size + 1) :
    ∃ v', IsRef base (w1.setCell ⟨g, i * 3 + 2, none⟩ (.slice (some ⟨gg, 0, none⟩) (nms.length + 1) c9)) p (.slice (some ⟨g, 0, none⟩) es.length cap) (es.set i ⟨kk, tt, v', nms ++ [a]⟩) ∧
      RefTurn base p w (w1.setCell ⟨g, i * 3 + 2, none⟩ (.slice (some ⟨gg, 0, none⟩) (nms.length + 1) c9)) := by
  obtain ⟨_, curE, hcE⟩ := ownBlock_some HI.row (g := g) rfl
  obtain ⟨hbg, _, hcE'⟩ := ownBlock_some HI.row (g := g) rfl
  have hgl : g < w.heap.size := (Array.getElem?_eq_some_iff.1 hcE).1
  have hlt : i < es.length := (List.getElem?_eq_some_iff.1 hi).1
  have hns := HI.ns i _ hi
  dsimp only at hns
  -- blocks
  have same1 : ∀ k, k < w.heap.size → some k ≠ nn.ownBlock → w1.heap[k]? = w.heap[k]? := fun k hk hne => (hgrow.block k (by simp; omega) hne).trans (Below.heap_alloc w o k hk)
  have nng : some g ≠ nn.ownBlock := fun e => by
    obtain ⟨_, cur, hc⟩ := ownBlock_some hns e.symm
    rw [hcE] at hc; cases hc
  have nnp : some p ≠ nn.ownBlock := fun e => by
    obtain ⟨_, cur, hc⟩ := ownBlock_some hns e.symm
    rw [show w.heap[p]? = _ from HI.box] at hc; cases hc
  have hpg : p ≠ g := fun e => by
    subst e
    rw [show w.heap[p]? = _ from HI.box] at hcE; cases hcE
  have hg1 := (same1 g hgl nng).trans hcE
  have hgg : gg ≠ g := by
    rintro rfl
    obtain ⟨_, cur, hc⟩ := ownBlock_some hown1 rfl
    rw [hg1] at hc; cases hc
  have set1 : ∀ k, k ≠ g → (w1.setCell ⟨g, i * 3 + 2, none⟩ (.slice (some ⟨gg, 0, none⟩) (nms.length + 1) c9)).heap[k]? = w1.heap[k]? := fun k hk => Below.heap_setCell _ _ _ _ hk
  have hsz : w.heap.size ≤ w1.heap.size := by have := hgrow.size; simp at this; omega
  -- the row of entries
  have rowE1 : w1.ownsRow base 66 3 (.slice (some ⟨g, 0, none⟩) es.length cap) es.length (es.flatMap Ent.cells) :=
    ((HI.row.alloc o).drew).kept hgrow (.inr (fun e => nng e.symm.symm))
  obtain ⟨rowE2, hg2⟩ := rowE1.stored (i * 3 + 2) (.slice (some ⟨gg, 0, none⟩) (nms.length + 1) c9)
  refine ⟨.slice (some ⟨gg, 0, none⟩) (nms.length + 1) c9, ⟨?_, ?_, ?_, ?_, ?_⟩, ⟨?_, ?_, ?_⟩⟩
  · exact (set1 p hpg).trans ((same1 p HI.box.lt nnp).trans HI.box)
  · rw [List.length_set]
    have hf := flat_set es i ⟨kk, tt, nn, nms⟩ (.slice (some ⟨gg, 0, none⟩) (nms.length + 1) c9) hi
    have hf2 : (es.set i ⟨kk, tt, .slice (some ⟨gg, 0, none⟩) (nms.length + 1) c9, nms ++ [a]⟩).flatMap Ent.cells = (es.flatMap Ent.cells).set (i * 3 + 2) (.slice (some ⟨gg, 0, none⟩) (nms.length + 1) c9) := by
      rw [← hf]
      have key : ∀ (l : List Ent) (j : Nat) (x y : Ent), x.cells = y.cells → (l.set j x).flatMap Ent.cells = (l.set j y).flatMap Ent.cells := by
        intro l
        induction l with
        | nil => intro j x y _; rfl
        | cons z l ih =>
          intro j x y h
          cases j with
          | zero => simp [h]
          | succ j => simp [ih j x y h]
      exact key _ _ _ _ rfl
    rw [hf2]
    exact rowE2
  · intro j e he
    by_cases hj : j = i
    · subst hj
      rw [List.getElem?_set_self hlt] at he
      cases he
      rw [List.length_append, List.length_singleton, List.map_append]
      refine hown1.kept hg2 (.inr fun e => ?_)
      simp only [Value.ownBlock, Option.some.injEq] at e
      exact hgg e
    · rw [List.getElem?_set_ne (fun e => hj e.symm)] at he
      have h0 := HI.ns j e he
      have h1 : w1.ownsRow base 9 1 e.ns e.names.length (e.names.map Value.string) := by
        refine ((h0.alloc o).drew).kept hgrow ?_
        rcases HI.dis j i e _ he hi hj with h | h
        · exact .inl h
        · exact .inr h
      refine h1.kept hg2 ?_
      cases hb : e.ns.ownBlock with
      | none => exact .inl rfl
      | some gb =>
        refine .inr fun e' => ?_
        simp only [Option.some.injEq] at e'
        subst e'
        obtain ⟨_, cur, hc⟩ := ownBlock_some h1 hb
        rw [hg1] at hc; cases hc
  · -- the names' rows lie apart
    have far : ∀ j e, es[j]? = some e → j ≠ i → e.ns.ownBlock ≠ some gg := by
      intro j e he hj hb
      rcases hat with h | h
      · rcases HI.dis j i e _ he hi hj with h1 | h1
        · rw [hb] at h1; cases h1
        · exact h1 (by rw [hb, ← h])
      · obtain ⟨_, cur, hc⟩ := ownBlock_some (HI.ns j e he) hb
        have := (Array.getElem?_eq_some_iff.1 hc).1
        omega
    intro j1 j2 x y hx hy hne
    by_cases h1 : j1 = i
    · subst h1
      rw [List.getElem?_set_self hlt] at hx
      cases hx
      rw [List.getElem?_set_ne hne] at hy
      exact .inr fun e => far j2 y hy (fun e => hne e.symm) e.symm
    · rw [List.getElem?_set_ne (fun e => h1 e.symm)] at hx
      by_cases h2 : j2 = i
      · subst h2
        rw [List.getElem?_set_self hlt] at hy
        cases hy
        exact .inr fun e => far j1 x hx h1 e
      · rw [List.getElem?_set_ne (fun e => h2 e.symm)] at hy
        exact HI.dis j1 j2 x y hx hy hne
  · intro j e he
    by_cases hj : j = i
    · subst hj
      rw [List.getElem?_set_self hlt] at he
      cases he
      obtain ⟨o1, o2, o3⟩ := HI.ok _ _ hi
      refine ⟨o1, o2, fun n hn => ?_⟩
      rcases List.mem_append.1 hn with hn | hn
      · exact o3 n hn
      · simp at hn; subst hn; exact ha
    · rw [List.getElem?_set_ne (fun e => hj e.symm)] at he
      exact HI.ok _ _ he
  · refine ⟨hgrow.os.trans rfl, hgrow.tape.trans rfl, hgrow.output.trans rfl, by simpa [World.setCell] using hsz, fun k hk => ?_⟩
    have hkw : k < w.heap.size := by have := HI.box.lt; omega
    refine (set1 k (by omega)).trans (same1 k hkw fun e => ?_)
    have := (ownBlock_some hns e.symm).1
    omega
  · simpa [World.setCell] using hsz
  · intro k hk hkp hty
    have hkg : k ≠ g := fun e => by subst e; exact (hty _ _ hcE).1 rfl
    refine (set1 k hkg).trans (same1 k hk fun e => ?_)
    obtain ⟨_, cur, hc⟩ := ownBlock_some hns e.symm
    exact (hty _ _ hc).2 rfl

set_option maxRecDepth 100000 in
set_option maxHeartbeats 2000000 in
theorem grantRef_new (base p : Nat) (E : Value) (es : List Ent) (a k : ByteArray) (i : Nat) (w : World) (h : IsRef base w p E es) (hl : es.length ≤ 1000000) (ha : a.size ≤ maxLen) (hb0 : base ≤ p) (hi : i < es.length) (hf : findI es k = (i : Int))
    (hn : (es[i]?.getD default).names.length ≤ 1000000) (hno : memB (es[i]?.getD default).names a = false) :
    Calls Try.prog 21 #[.pointer (some ⟨p, 0, none⟩), .string a, .string k] w fun e w' => e = .returned (.tuple #[.bool true, .int .i64 0]) ∧
      ∃ v', IsRef base w' p E (es.set i { es[i]?.getD default with ns := v', names := (es[i]?.getD default).names ++ [a] }) ∧ RefTurn base p w w' := by
  obtain ⟨A, cap, rfl⟩ := h.slice
  have cb := h.box.cell
  obtain ⟨g, rfl, hbg, hgl, hgp, _, _, c2⟩ := h.ent hi
  have hns := h.ns i (es[i]?.getD default) (by simp [hi])
  obtain ⟨i0, hi9, hz0, hz1, hz2⟩ := info_parts info9
  have hi0 : (0 : Int) ≤ (i : Int) := by omega
  have hi1 : (i : Int) < (es.length : Int) := by omega
  have hp := h.box.lt
  have HI := Lib.hid h
  have HF := Lib.hid hf
  have HNO := Lib.hid hno
  have HNS := Lib.hid hns
  clear h hf hno
  generalize hen : es[i]?.getD default = en at *
  have HIK := Lib.hid (show es[i]? = some en by rw [← hen]; simp [hi])
  clear hen
  obtain ⟨kk, tt, nn, nms⟩ := en
  dsimp only at c2 hns HNS HNO hn
  have hnb : ∀ gb, nn.ownBlock = some gb → gb ≠ p ∧ gb ≠ g := by
    intro gb hgb
    obtain ⟨_, cur, hc⟩ := ownBlock_some hns hgb
    refine ⟨fun e => ?_, fun e => ?_⟩
    · subst e; rw [show w.heap[gb]? = _ from HI.out.box] at hc; cases hc
    · subst e
      obtain ⟨_, cur2, hc2⟩ := ownBlock_some HI.out.row rfl
      rw [hc2] at hc; cases hc
  have np : nn.ownBlock ≠ some p := fun e => (hnb p e).1 rfl
  have ng : nn.ownBlock ≠ some g := fun e => (hnb g e).2 rfl
  obtain ⟨_, curE, hcE⟩ := ownBlock_some HI.out.row (g := g) rfl
  have HCE := Lib.hid hcE
  clear hcE
  go_enter Try.func21, Try.ntmps21
  go_wp2_with (first
    | (go_at_call 33; refine (find_any _ _ _ es k _ HI.out hl).mono ?_; rintro e w' ⟨rfl, rfl⟩; rw [HF.out])
    | (go_at_call 34; refine (hasRef_any _ _ a _ _ HNS.out hn).mono ?_; rintro e w' ⟨rfl, rfl⟩; rw [HNO.out]))
  go_region_law ((refine step_append_lies _ (by rfl) _ _ 33 (by rfl) base 9 i0 (.string ByteArray.empty) 1 16 Try.underlying33 hi9 hz0 hz1 hz2 rfl (by decide) nn nms.length (nms.map Value.string) (by rfl) ((hns.alloc _).drew) ⟨w.heap.size, 0, none⟩ 1 1 [.string a] (by rfl) (by rfl) (cell_one_drew _ _ _) (by simp [Value.oneCell']) (by omega) (by unfold maxLen; omega) (by omega) (by simp; omega) (w.heap.size + 1) (by simp) ?_; intro gg c9 w1 hown1 hgrow hat hlt9; have hw1 : Hid (w1.heap[g]? = some (.cells curE 66 (0, 0))) := Lib.hid ((hgrow.block g (by simp; omega) (fun e => ng e.symm)).trans ((Below.heap_alloc _ _ _ hgl).trans HCE.out)); have cg : w1.cell? ⟨g, i * 3 + 2, none⟩ = some nn := (hgrow.cell (show ((w.drew).alloc (.cells #[.string a] 9)).cell? ⟨g, i * 3 + 2, none⟩ = some nn from (((Below.refl w.heap.size w.drew).alloc (Nat.le_refl _) _).cell (p := ⟨g, i * 3 + 2, none⟩) hgl).trans c2) (fun e => ng e.symm)); have cp1 : w1.cell? ⟨p, 0, none⟩ = some (.slice (some ⟨g, 0, none⟩) es.length cap) := (hgrow.cell (show ((w.drew).alloc (.cells #[.string a] 9)).cell? ⟨p, 0, none⟩ = some (.slice (some ⟨g, 0, none⟩) es.length cap) from (((Below.refl w.heap.size w.drew).alloc (Nat.le_refl _) _).cell (p := ⟨p, 0, none⟩) hp).trans cb) (fun e => np e.symm)); have fz : w1.frozen? ⟨g, i * 3 + 2, none⟩ = false := (by simp [World.frozen?, hw1.out])))
  all_goals
    have hfin := grant_fin HI.out HIK.out ha hb0 hgrow hown1 hat
    have HFIN := Lib.hid hfin
    clear hfin hgrow hown1 hw1 cg cp1 fz
    go_wp2
    go_ret2
    exact ⟨rfl, HFIN.out⟩

end Go.Proofs.Ytneclonahddipaa
