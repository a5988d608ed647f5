/- TableCopies: the memory of the walk: what is written are ints in the copies' own rows; all else stays. -/
import Derived.Test.YtlocafmglficnaaDoorTabSep
import Derived.Test.YtlocafmglficnaaDoorTabFinds
namespace Go.Proofs.YtlocafmglficnaaDoor
open Go.RowKit Go.Maps Go.Sort Go.Shelf

theorem baseOf_vals {l : List Int} {T : Tbl} (h : T ∈ baseOf l) {r : RowV} (hr : r ∈ T.rows) : 0 < r.vals.length := by
  obtain ⟨S, hS, a, rfl⟩ := baseOf_mem h
  obtain ⟨i, b, rfl, _⟩ := schemasOf_mem l hS
  have hc := (schOf_cols l i b).2.1
  have := (rsC_vals l _ _ _ r hr).1
  omega
theorem tcopy_val {C : TypeId → Nat → Prop} {v : Value} {T : Tbl} {w : World} (h : TblVal C w v T) (hs : Small T) :
    Calls Tryd.prog 37 #[v] w fun e w' => ∃ u, e = .returned u ∧ TblVal Any w' u T ∧ Below w.heap.size w w' := by
  have hh := h
  obtain ⟨_, _, _, _, _, hst⟩ := hh
  refine (tcopy_any C v T w h hs).mono fun e w' => ?_
  rintro ⟨cu, ru, rfl, h1, h2, hb⟩
  exact ⟨_, rfl, ⟨cu, ru, rfl, h1.any, h2.any, hst⟩, hb⟩
def IsC (W : World) (b : Nat) : Prop := ∃ cs t, W.heap[b]? = some (.cells cs t (0, 0))
def IsT (W : World) (b : Nat) : Prop := ∃ cs, W.heap[b]? = some (.cells cs 31 (0, 0))
theorem IsC.set {W : World} {b : Nat} (h : IsC W b) (k i : Nat) (u : Value) : IsC (W.setCell ⟨k, i, none⟩ u) b := by
  obtain ⟨cs, t, e⟩ := h
  by_cases hk : b = k
  · subst hk
    exact ⟨_, t, heap_setCell_same _ _ _ _ _ _ e⟩
  · exact ⟨cs, t, (Below.heap_setCell _ _ _ _ (by exact hk)).trans e⟩
theorem IsC.fz {W : World} {b : Nat} (h : IsC W b) (i : Nat) : W.frozen? ⟨b, i, none⟩ = false := by
  obtain ⟨cs, t, e⟩ := h
  simp [World.frozen?, e]
theorem cell_set {W : World} {b i b' i' : Nat} {u v : Value} (hb : IsC W b) (h : W.cell? ⟨b', i', none⟩ = some v) :
    (W.setCell ⟨b, i, none⟩ u).cell? ⟨b', i', none⟩ = some v ∨ ((b' = b ∧ i' = i) ∧ (W.setCell ⟨b, i, none⟩ u).cell? ⟨b', i', none⟩ = some u) := by
  by_cases hk : b' = b
  · subst hk
    obtain ⟨cs, t, e⟩ := hb
    have e2 := heap_setCell_same _ _ i _ _ u e
    simp [World.cell?, e] at h
    simp only [World.cell?, e2]
    by_cases hi : i' = i
    · subst hi
      have hl := (Array.getElem?_eq_some_iff.1 h).1
      right
      simp [hl]
    · left
      simpa [Array.getElem?_setIfInBounds, Ne.symm hi] using h
  · left
    exact (World.cell?_of_block (Below.heap_setCell _ _ _ _ (by exact hk))).trans h
/-- A row at place o of block b: its owner and its first value are ints, in blocks of P. -/
structure RowAt (W : World) (b o : Nat) (P : Nat → Prop) : Prop where
  p : P b
  c : IsC W b
  own : ∃ x : Int, W.cell? ⟨b, o, none⟩ = some (.int .i64 x)
  vals : ∃ (bv ov lv cv : Nat) (x : Int), W.cell? ⟨b, o + 1, none⟩ = some (.slice (some ⟨bv, ov, none⟩) lv cv) ∧ 0 < lv ∧ lv ≤ cv ∧ cv ≤ maxLen ∧ P bv ∧ IsC W bv ∧ W.cell? ⟨bv, ov, none⟩ = some (.int .i64 x)
theorem int_set {W : World} {b i b' i' : Nat} {x y : Int} (hb : IsC W b) (h : W.cell? ⟨b', i', none⟩ = some (.int .i64 x)) : ∃ z : Int, (W.setCell ⟨b, i, none⟩ (.int .i64 y)).cell? ⟨b', i', none⟩ = some (.int .i64 z) := by
  rcases cell_set (u := .int .i64 y) (i := i) hb h with h1 | ⟨_, h1⟩
  · exact ⟨_, h1⟩
  · exact ⟨_, h1⟩
theorem RowAt.set {W : World} {b o k i : Nat} {P : Nat → Prop} {x0 y : Int} (h : RowAt W b o P) (hk : IsC W k) (hc : W.cell? ⟨k, i, none⟩ = some (.int .i64 x0)) : RowAt (W.setCell ⟨k, i, none⟩ (.int .i64 y)) b o P := by
  obtain ⟨x, hx⟩ := h.own
  obtain ⟨bv, ov, lv, cv, z, h1, h2, h3, h4, h5, h6, h7⟩ := h.vals
  refine ⟨h.p, h.c.set _ _ _, int_set hk hx, ?_⟩
  obtain ⟨z', hz⟩ := int_set (i := i) (y := y) hk h7
  refine ⟨bv, ov, lv, cv, z', ?_, h2, h3, h4, h5, h6.set _ _ _, hz⟩
  rcases cell_set (u := .int .i64 y) (i := i) hk h1 with e | ⟨⟨e1, e2⟩, _⟩
  · exact e
  · subst e1
    subst e2
    rw [hc] at h1
    cases h1
theorem IsC.lt {W : World} {b : Nat} (h : IsC W b) : b < W.heap.size := by
  obtain ⟨cs, t, e⟩ := h
  exact (Array.getElem?_eq_some_iff.1 e).1
theorem RowAt.same {W W' : World} {b o : Nat} {P : Nat → Prop} (h : RowAt W b o P) (hs : ∀ k, P k → k < W.heap.size → W'.heap[k]? = W.heap[k]?) : RowAt W' b o P := by
  obtain ⟨x, hx⟩ := h.own
  obtain ⟨bv, ov, lv, cv, z, h1, h2, h3, h4, h5, h6, h7⟩ := h.vals
  have hb := hs b h.p h.c.lt
  have hv := hs bv h5 h6.lt
  obtain ⟨cs, t, e⟩ := h.c
  obtain ⟨cs', t', e'⟩ := h6
  exact ⟨h.p, ⟨cs, t, hb.trans e⟩, ⟨x, (World.cell?_of_block hb).trans hx⟩, bv, ov, lv, cv, z, (World.cell?_of_block hb).trans h1, h2, h3, h4, h5, ⟨cs', t', hv.trans e'⟩, (World.cell?_of_block hv).trans h7⟩
def RowsSh (W : World) (A : Option Addr) (n : Nat) (P : Nat → Prop) : Prop := 0 < n → ∃ b o, A = some ⟨b, o, none⟩ ∧ ∀ j, j < n → RowAt W b (o + j * 2) P
theorem RowsSh.set {W : World} {A : Option Addr} {n k i : Nat} {P : Nat → Prop} {x0 y : Int} (h : RowsSh W A n P) (hk : IsC W k) (hc : W.cell? ⟨k, i, none⟩ = some (.int .i64 x0)) : RowsSh (W.setCell ⟨k, i, none⟩ (.int .i64 y)) A n P := fun h0 => by
  obtain ⟨b, o, e, hr⟩ := h h0
  exact ⟨b, o, e, fun j hj => (hr j hj).set hk hc⟩
theorem RowsSh.same {W W' : World} {A : Option Addr} {n : Nat} {P : Nat → Prop} (h : RowsSh W A n P) (hs : ∀ k, P k → k < W.heap.size → W'.heap[k]? = W.heap[k]?) : RowsSh W' A n P := fun h0 => by
  obtain ⟨b, o, e, hr⟩ := h h0
  exact ⟨b, o, e, fun j hj => (hr j hj).same hs⟩
theorem RowsSh.of_row {lo hi n c : Nat} {W : World} {A : Option Addr} {rs : List RowV} (h : SRow rowK (OwnR lo hi W) W (.slice A n c) rs) (hv : ∀ r ∈ rs, 0 < r.vals.length) : RowsSh W A n (fun b => lo ≤ b ∧ b < hi ∧ ¬ IsT W b) := fun h0 => by
  have hp : ∀ E b, E ≠ 31 → OwnR lo hi W E b → (lo ≤ b ∧ b < hi ∧ ¬ IsT W b) ∧ IsC W b := fun E b hne ⟨h1, h2, cur, h3⟩ => ⟨⟨h2, h1, fun ⟨cs, e⟩ => by
    rw [h3] at e
    simp only [Option.some.injEq, Obj.cells.injEq] at e
    exact hne e.2.1⟩, cur, E, h3⟩
  obtain ⟨A', c', e, _, _, h3⟩ := h
  simp only [Value.slice.injEq] at e
  obtain ⟨rfl, rfl, rfl⟩ := e
  obtain ⟨b, o, eA, hC, _, hx⟩ := h3 h0
  refine ⟨b, o, eA, fun j hj => ?_⟩
  obtain ⟨l, ⟨u, rfl, hr, _⟩, hc⟩ := hx j rs[j] (by simp [hj])
  have hv0 := hv rs[j] (List.getElem_mem hj)
  obtain ⟨A2, c2, rfl, hl2, hm2, h32⟩ := hr
  obtain ⟨bv, ov, rfl, hCv, _, hxv⟩ := h32 hv0
  obtain ⟨lz, ⟨rfl, _⟩, hcz⟩ := hxv 0 rs[j].vals[0] (by simp [hv0])
  have g0 := hc 0 _ rfl
  have g1 := hc 1 _ rfl
  have g2 := hcz 0 _ rfl
  obtain ⟨k1, k2⟩ := hp 34 b (by decide) hC
  obtain ⟨k3, k4⟩ := hp 3 bv (by decide) hCv
  exact ⟨k1, k2, ⟨_, by simpa [rowK] using g0⟩, bv, ov, _, c2, _, by simpa [rowK] using g1, hv0, hl2, hm2, k3, k4, by simpa [intK] using g2⟩
/-- Before the round of table i: what has stayed since w5, and how the rows of d's tables lie. -/
structure CpIn (w5 : World) (nc nd nw : Nat) (m : Nat → Nat) (n bd od i : Nat) (W : World) : Prop where
  os : W.os = w5.os
  tape : W.tape = w5.tape
  output : W.output = w5.output
  size : w5.heap.size ≤ W.heap.size
  same : ∀ k, k < w5.heap.size → (k < nc ∨ (m i ≤ k ∧ k < nd) ∨ nw ≤ k ∨ IsT w5 k) → W.heap[k]? = w5.heap[k]?
  sh : ∀ j A l c, j < n → w5.cell? ⟨bd, od + j * 5 + 4, none⟩ = some (.slice A l c) → RowsSh W A l (fun b => nd ≤ b ∧ b < nw ∧ ¬ IsT w5 b)
section
variable {w5 W W' : World} {nc nd nw n bd od i : Nat} {m : Nat → Nat}
theorem CpIn.next (h : CpIn w5 nc nd nw m n bd od i W) (hm : m i ≤ m (i + 1)) : CpIn w5 nc nd nw m n bd od (i + 1) W :=
  ⟨h.os, h.tape, h.output, h.size, fun k hk hc => h.same k hk (by rcases hc with hc | hc | hc | hc
                                                                  · exact .inl hc
                                                                  · exact .inr (.inl ⟨by omega, hc.2⟩)
                                                                  · exact .inr (.inr (.inl hc))
                                                                  · exact .inr (.inr (.inr hc))), h.sh⟩
theorem CpIn.set {b o : Nat} {x0 y : Int} (h : CpIn w5 nc nd nw m n bd od i W) (hbp : ¬ (b < nc ∨ (m i ≤ b ∧ b < nd) ∨ nw ≤ b ∨ IsT w5 b)) (hC : IsC W b) (hc : W.cell? ⟨b, o, none⟩ = some (.int .i64 x0)) : CpIn w5 nc nd nw m n bd od i (W.setCell ⟨b, o, none⟩ (.int .i64 y)) :=
  ⟨h.os, h.tape, h.output, by have := h.size; simpa [World.setCell] using this, fun k hk hp => (Below.heap_setCell _ _ _ _ (show k ≠ b from fun e => hbp (e ▸ hp))).trans (h.same k hk hp), fun j A l c hj hd => (h.sh j A l c hj hd).set hC hc⟩
theorem CpIn.below (h : CpIn w5 nc nd nw m n bd od i W) (hb : Below W.heap.size W W') : CpIn w5 nc nd nw m n bd od i W' :=
  ⟨hb.os.trans h.os, hb.tape.trans h.tape, hb.output.trans h.output, Nat.le_trans h.size hb.size, fun k hk hp => (hb.block k (by have := h.size; omega)).trans (h.same k hk hp), fun j A l c hj hd => (h.sh j A l c hj hd).same fun k _ hk => hb.block k hk⟩
theorem CpIn.tcell (h : CpIn w5 nc nd nw m n bd od i W) {b o : Nat} {v : Value} (hT : IsT w5 b) (hc : w5.cell? ⟨b, o, none⟩ = some v) : W.cell? ⟨b, o, none⟩ = some v :=
  (World.cell?_of_block (h.same b (cell_lt hc) (.inr (.inr (.inr hT))))).trans hc
/-- The base itself, and the second one, read as they did. -/
theorem CpIn.low {v : Value} {bs : List Tbl} (h : CpIn w5 nc nd nw m n bd od i W) (hb : SRow tblK (Lt nc) w5 v bs) : SRow tblK (Lt nc) W v bs := hb.keep fun E b _ hlt hC => ⟨hC, h.same b hlt (.inl hC)⟩
theorem CpIn.high {v : Value} {bs : List Tbl} (h : CpIn w5 nc nd nw m n bd od i W) (hb : SRow tblK (fun _ k => nw ≤ k) w5 v bs) : SRow tblK (fun _ k => nw ≤ k) W v bs := hb.keep fun E b _ hlt hC => ⟨hC, h.same b hlt (.inr (.inr (.inl hC)))⟩
theorem CpIn.tbl {v : Value} {T : Tbl} (h : CpIn w5 nc nd nw m n bd od i W) (hm : m (i + 1) ≤ nd) (hv : TblVal (OwnR (m i) (m (i + 1)) w5) w5 v T) : TblVal Any W v T := by
  obtain ⟨cu, ru, e, h1, h2, h3⟩ := hv
  have hk : ∀ b, b < w5.heap.size → (b < m (i + 1) ∧ m i ≤ b) → W.heap[b]? = w5.heap[b]? := fun b hlt hC => h.same b hlt (.inr (.inl ⟨hC.2, by omega⟩))
  exact ⟨cu, ru, e, h1.keep fun E b _ hlt hC => ⟨trivial, hk b hlt ⟨hC.1, hC.2.1⟩⟩, h2.keep fun E b _ hlt hC => ⟨trivial, hk b hlt ⟨hC.1, hC.2.1⟩⟩, h3⟩
theorem CpIn.rows {A : Option Addr} {l : Nat} (h : CpIn w5 nc nd nw m n bd od i W) (hm : m (i + 1) ≤ nd) (hr : RowsSh w5 A l (fun b => m i ≤ b ∧ b < m (i + 1) ∧ ¬ IsT w5 b)) : RowsSh W A l (fun b => m i ≤ b ∧ b < m (i + 1) ∧ ¬ IsT w5 b) :=
  hr.same fun k hk hlt => h.same k hlt (.inr (.inl ⟨hk.1, by omega⟩))
theorem CpIn.all {w : World} (h : CpIn w5 nc nd nw m n bd od i W) (hb : Below w.heap.size w w5) (hn : w.heap.size ≤ nc) : Below w.heap.size w W :=
  ⟨h.os.trans hb.os, h.tape.trans hb.tape, h.output.trans hb.output, Nat.le_trans hb.size h.size, fun k hk => (h.same k (by have := hb.size; omega) (.inl (by omega))).trans (hb.block k hk)⟩
end
theorem OSeqR.isT {base : Nat} {m : Nat → Nat} {W : World} {v : Value} {ts : List Tbl} (h : OSeqR tblK base m W v ts) {b o n c : Nat} (hv : v = .slice (some ⟨b, o, none⟩) n c) (h0 : 0 < ts.length) : IsT W b := by
  obtain ⟨ls, ho, _⟩ := h
  subst hv
  rcases ho.2 with ⟨e, hz⟩ | ⟨g, cap, cur, e, _, hh, _⟩
  · omega
  · simp only [Value.slice.injEq, Option.some.injEq, Addr.mk.injEq] at e
    obtain ⟨⟨rfl, _⟩, _⟩ := e
    exact ⟨cur, hh⟩
/-- Where a table of the list lies, and its parts. -/
theorem OSeqR.at {base : Nat} {m : Nat → Nat} {W : World} {v : Value} {ts : List Tbl} (h : OSeqR tblK base m W v ts) (hm : ∀ j, j < ts.length → base ≤ m j) {k : Nat} (hk : k < ts.length) :
    ∃ (b o c : Nat) (nm : ByteArray) (pb : Bool) (mn : Int) (cu ru : Option Addr × Nat × Nat), v = .slice (some ⟨b, o, none⟩) ts.length c ∧ IsT W b ∧ W.cell? ⟨b, o + k * 5, none⟩ = some (.string nm) ∧ W.cell? ⟨b, o + k * 5 + 1, none⟩ = some (.bool pb) ∧ W.cell? ⟨b, o + k * 5 + 2, none⟩ = some (.int .i64 mn) ∧
      W.cell? ⟨b, o + k * 5 + 3, none⟩ = some (.slice cu.1 cu.2.1 cu.2.2) ∧ W.cell? ⟨b, o + k * 5 + 4, none⟩ = some (.slice ru.1 ru.2.1 ru.2.2) ∧ TblVal (OwnR (m k) (m (k + 1)) W) W (.agg #[.string nm, .bool pb, .int .i64 mn, .slice cu.1 cu.2.1 cu.2.2, .slice ru.1 ru.2.1 ru.2.2]) ts[k] := by
  obtain ⟨A, c, e, h1, h2⟩ := (h.seq hm).slice
  have hT := fun b o (hA : A = some ⟨b, o, none⟩) => h.isT (e.trans (by rw [hA])) (show 0 < ts.length by omega)
  obtain ⟨ls, ho, hl, hx⟩ := h
  subst e
  have hlen : ∀ l ∈ ls, l.length = tblK.k := by
    intro l hm
    obtain ⟨j, hj, e⟩ := List.getElem_of_mem hm
    have hjx : j < ts.length := by omega
    obtain ⟨l', e', hi⟩ := hx j ts[j] (by simp [hjx])
    rw [List.getElem?_eq_getElem hj, Option.some.injEq] at e'
    rw [← e, e']
    exact tblK.len hi
  rcases ho.2 with ⟨e, hz⟩ | ⟨g, cap, cur, e, hb, hh, _⟩
  · omega
  · simp only [Value.slice.injEq] at e
    obtain ⟨rfl, _, rfl⟩ := e
    obtain ⟨l, e', hi⟩ := hx k ts[k] (by simp [hk])
    have hc : ∀ (i : Nat) (u : Value), l[i]? = some u → W.cell? ⟨g, 0 + k * 5 + i, none⟩ = some u := fun i u hu => by
      have := ho.cells (g := g) rfl (k * tblK.k + i) u (flatten_at hlen e' hu)
      rw [show (⟨g, 0, none⟩ : Addr).add (k * tblK.k + i) = ⟨g, 0 + (k * tblK.k + i), none⟩ by unfold Addr.add; split <;> simp_all] at this
      rw [show (0 + k * 5 + i) = 0 + (k * 5 + i) by omega]
      exact this
    obtain ⟨ls', v', rfl, ⟨u, rfl, hcr, hst⟩, hr⟩ := hi
    obtain ⟨A1, c1, rfl, _, _⟩ := hcr.slice
    obtain ⟨A2, c2, rfl, _, _⟩ := hr.slice
    exact ⟨g, 0, _, _, _, _, (A1, _, c1), (A2, _, c2), rfl, hT g 0 rfl, by simpa using hc 0 _ rfl, by simpa using hc 1 _ rfl, by simpa using hc 2 _ rfl, by simpa using hc 3 _ rfl, by simpa using hc 4 _ rfl, _, _, rfl, hcr, hr, hst⟩
theorem tbl_rows {C : TypeId → Nat → Prop} {w : World} {a b c d r : Value} {T : Tbl} (h : TblVal C w (.agg #[a, b, c, d, r]) T) : SRow rowK C w r T.rows := by
  obtain ⟨cu, ru, e, _, hr, _⟩ := h
  simp only [Value.agg.injEq, Array.mk.injEq, List.cons.injEq, and_true] at e
  obtain ⟨_, _, _, _, rfl⟩ := e
  exact hr
end Go.Proofs.YtlocafmglficnaaDoor
