/- The law's own schemas: all columns. -/
import Derived.Test.YtlocafmglficnaaDoorTabGenCol2
import Derived.Test.YtlocafmglficnaaDoorTabWithoutOf
import Derived.Sort.CutIn
namespace Go.Proofs.YtlocafmglficnaaDoor
open Go.RowKit Go.Maps Go.Sort Go.Shelf

theorem OSeq.push {α : Type} {K : Kind α} {base : Nat} {W W' : World} {v v' : Value} {xs : List α} {us l : List Value} {x : α} {o : Obj} (h : OSeq K base W v xs) (hin : K.ty ∉ K.inner) (hx : K.is (Own base W) W l x) (hus : (W.alloc o).ownsRow base K.ty K.k v xs.length us)
    (hown : W'.ownsRow base K.ty K.k v' (xs.length + 1) (us ++ l)) (hg : (W.alloc o).grownBy W' v.ownBlock) : OSeq K base W' v' (xs ++ [x]) :=
  (h.later (below_alloc W o)).app2 hin (K.keep hx fun E b _ _ hO => own_below (below_alloc W o) hO) hus hown hg
theorem OSeq.grownP {α : Type} {K : Kind α} {base p : Nat} {w w' : World} {v : Value} {xs : List α} {cs : Array Value} {t : TypeId} (h : OSeq K base w v xs) (hg : w.grownBy w' (some p)) (hp : w.heap[p]? = some (.cells cs t (0, 0))) (ht : t ∉ K.ty :: K.inner) : OSeq K base w' v xs :=
  h.other hg (other31 hp ht)
/-- A list of the call's own, and the Taker, and what else has turned. -/
structure GInv {α : Type} (K : Kind α) (w : World) (p : Nat) (v : Value) (l : List Int) (u : Value) (xs : List α) (a : Nat) (wr : World) : Prop where
  seq : OSeq K w.heap.size wr u xs
  tk : TkrAt wr p v l a
  g : w.grownBy wr (some p)
section
variable {α : Type} {K : Kind α} {w W W' : World} {p a a' : Nat} {v u v' : Value} {l : List Int} {xs : List α}
theorem GInv.later (h : GInv K w p v l u xs a W) (hb : Below W.heap.size W W') : GInv K w p v l u xs a W' := ⟨h.seq.later hb, h.tk.later hb, h.g.trans (grown_of_below hb _)⟩
theorem GInv.take (h : GInv K w p v l u xs a W) (ht : 87 ∉ K.ty :: K.inner) (hg : W.grownBy W' (some p)) (ht' : TkrAt W' p v l a') : GInv K w p v l u xs a' W' := ⟨h.seq.grownP hg h.tk.bx ht, ht', h.g.trans hg⟩
theorem GInv.push {us lx : List Value} {x : α} {o : Obj} (h : GInv K w p v l u xs a W) (hpl : p < w.heap.size) (hin : K.ty ∉ K.inner) (hx : K.is (Own w.heap.size W) W lx x) (hus : (W.alloc o).ownsRow w.heap.size K.ty K.k u xs.length us)
    (hown : W'.ownsRow w.heap.size K.ty K.k v' (xs.length + 1) (us ++ lx)) (hg : (W.alloc o).grownBy W' u.ownBlock) : GInv K w p v l v' (xs ++ [x]) a W' := by
  have hsz := h.g.size
  have hob : ∀ r, u.ownBlock = some r → w.heap.size ≤ r := fun r hr => (hus.lt r hr).1
  have ht := h.tk.later (below_alloc W o)
  refine ⟨h.seq.push hin hx hus hown hg, ⟨(hg.block p (by simp; omega) fun e => by have := hob p e.symm; omega).trans ht.bx, ht.row.keep fun E k _ hk hO => ⟨hO, hg.block k hk fun e => by have := hob k e.symm; have : k < p := hO; omega⟩, ht.le⟩, ?_⟩
  have hgz := hg.size
  simp at hgz
  exact ⟨hg.os.trans h.g.os, hg.tape.trans h.g.tape, hg.output.trans h.g.output, by omega, fun k hk hne => (hg.block k (by simp; omega) fun e => by have := hob k e.symm; omega).trans ((heap_alloc_old _ _ (by omega)).trans (h.g.block k hk hne))⟩
theorem GInv.us (h : GInv K w p v l u xs a W) (o : Obj) : ∃ us, (W.alloc o).ownsRow w.heap.size K.ty K.k u xs.length us := (h.seq.later (below_alloc W o)).raw
theorem GInv.setNew {b i : Nat} {x : Value} {cs : Array Value} {t : TypeId} (h : GInv K w p v l u xs a W) (hb : W.heap[b]? = some (.cells cs t (0, 0))) (ht : t ∉ K.ty :: K.inner) (hwb : w.heap.size ≤ b) (hpl : p < w.heap.size) : GInv K w p v l u xs a (W.setCell ⟨b, i, none⟩ x) :=
  ⟨h.seq.setOther hb ht, h.tk.set (by omega), grown_setNew h.g hwb⟩
end
/-- The position behind n columns, and the columns. -/
def allA (l : List Int) : Nat → Nat
  | 0 => 0
  | n + 1 => colA l (allA l n)
def allC (l : List Int) (n : Nat) : List Col := (List.range n).map fun i => colOf l (allA l i) (nms1[i]?.getD default)
theorem allC_succ (l : List Int) (n : Nat) : allC l (n + 1) = allC l n ++ [colOf l (allA l n) (nms1[n]?.getD default)] := by
  unfold allC
  rw [List.range_succ, List.map_append]
  rfl
theorem nms1_at (k : Nat) (hk : k < 5) : ∃ s, nms1[k]? = some s ∧ s.size ≤ maxLen := by
  match k, hk with
  | 0, _ => exact ⟨_, rfl, by decide⟩
  | 1, _ => exact ⟨_, rfl, by decide⟩
  | 2, _ => exact ⟨_, rfl, by decide⟩
  | 3, _ => exact ⟨_, rfl, by decide⟩
  | 4, _ => exact ⟨_, rfl, by decide⟩
theorem colOf_ok (l : List Int) (a : Nat) (nm : ByteArray) (h : nm.size ≤ maxLen) : (colOf l a nm).name.size ≤ maxLen ∧ Fit (colOf l a nm).lo ∧ Fit (colOf l a nm).hi := by
  unfold colOf
  have h1 := tkV_lt l (tkA l a 3) (n := 5) (by omega)
  have h2 := tkV_lt l (tkA l a 3) (n := 9) (by omega)
  have h3 := tkV_lt l (tkA l (tkA l a 3) 9) (n := 8) (by omega)
  split
  · exact ⟨h, by unfold Fit; dsimp only; omega, by unfold Fit; dsimp only; omega⟩
  · exact ⟨h, by unfold Fit; dsimp only; omega, by unfold Fit; dsimp only; omega⟩
theorem colOf_words (l : List Int) (a : Nat) (nm : ByteArray) : (colOf l a nm).words.length ≤ 5 := by
  unfold colOf
  split
  · dsimp only; rw [List.length_take]; exact Nat.le_trans (Nat.min_le_right _ _) (by decide)
  · simp
theorem names_cell {w : World} {b k : Nat} {ss : List ByteArray} {s : ByteArray} (hb : w.heap[b]? = some (.cells (ss.map strV).toArray 9 (0, 0))) (hs : ss[k]? = some s) : w.cell? ⟨b, k, none⟩ = some (.string s) := by
  simp [World.cell?, hb, hs]
theorem names0_ex (w : World) : Calls Tryd.prog 75 #[.int .i64 0] w fun e w' => ∃ nb, e = .returned (.slice (some ⟨nb, 0, none⟩) 4 4) ∧ w.heap.size ≤ nb ∧ w'.heap[nb]? = some (.cells (nms0.map strV).toArray 9 (0, 0)) ∧ Below w.heap.size w w' :=
  (names0_any w).mono fun e w' ⟨he, hw⟩ => by
    subst he hw
    exact ⟨_, rfl, Nat.le_refl _, heap_alloc_new _ _, below_alloc _ _⟩
theorem nms0_at (k : Nat) (hk : k < 4) : ∃ s, nms0[k]? = some s ∧ s.size ≤ maxLen := by
  match k, hk with
  | 0, _ => exact ⟨_, rfl, by decide⟩
  | 1, _ => exact ⟨_, rfl, by decide⟩
  | 2, _ => exact ⟨_, rfl, by decide⟩
  | 3, _ => exact ⟨_, rfl, by decide⟩
theorem box_filled {w : World} {b : Nat} {c0 c1 c2 c3 : Value} {t : TypeId} (h : w.heap[b]? = some (.cells #[c0, c1, c2, c3] t (0, 0))) (u0 u1 u2 u3 : Value) :
    ((((w.setCell ⟨b, 0, none⟩ u0).setCell ⟨b, 1, none⟩ u1).setCell ⟨b, 2, none⟩ u2).setCell ⟨b, 3, none⟩ u3).heap[b]? = some (.cells #[u0, u1, u2, u3] t (0, 0)) := by
  have := heap_setCell_same _ _ 3 _ _ u3 (heap_setCell_same _ _ 2 _ _ u2 (heap_setCell_same _ _ 1 _ _ u1 (heap_setCell_same _ _ 0 _ _ u0 h)))
  simpa using this
theorem GInv.set4' {α : Type} {K : Kind α} {w W : World} {p a b : Nat} {v u u0 u1 u2 u3 : Value} {l : List Int} {xs : List α} {c0 c1 c2 c3 : Value} {t : TypeId} (h : GInv K w p v l u xs a W) (hb : W.heap[b]? = some (.cells #[c0, c1, c2, c3] t (0, 0))) (ht : t ∉ K.ty :: K.inner) (hwb : w.heap.size ≤ b) (hpl : p < w.heap.size) :
    GInv K w p v l u xs a ((((W.setCell ⟨b, 0, none⟩ u0).setCell ⟨b, 1, none⟩ u1).setCell ⟨b, 2, none⟩ u2).setCell ⟨b, 3, none⟩ u3) :=
  ⟨h.seq.other (r := b) (set4 _ _ _ _ _ _) (other31 hb ht), h.tk.set4 (by omega), set4_new h.g hwb⟩
theorem stage_three {F : Fence} {n : Nat} {P : Program} {C : World → Prop} {ops : List Oper} {H : List Nat} {waits : Nat → Bool} {Q' : Act → World → Prop} {f : Nat} {LT : Array Bool} {a : Act} {w : World} (i j m : Nat) {o o2 o3 : Oper} (hr : Region.ready .any ops.toArray LT = [i, j, m]) (ho : ops[i]? = some o) (ho2 : ops[j]? = some o2) (ho3 : ops[m]? = some o3)
    (h : wpListIn F n P ops.toArray (StagePost F n P ops H C waits Q' f LT i) [o] a w) (h2 : wpListIn F n P ops.toArray (StagePost F n P ops H C waits Q' f LT j) [o2] a w) (h3 : wpListIn F n P ops.toArray (StagePost F n P ops H C waits Q' f LT m) [o3] a w) : wpStage F n P ops H C waits Q' (f + 1) LT a w :=
  .inr ⟨fun e => (by rw [hr] at e; cases e), fun k hk o' ho' => by
    rw [hr] at hk
    simp only [List.mem_cons, List.not_mem_nil, or_false] at hk
    rcases hk with rfl | rfl | rfl
    · rw [ho] at ho'; cases ho'; exact h
    · rw [ho2] at ho'; cases ho'; exact h2
    · rw [ho3] at ho'; cases ho'; exact h3⟩
/-- Position behind k places of the schema's columns; the columns. -/
def inA (l : List Int) (first : Int) (a : Nat) : Nat → Nat
  | 0 => a
  | k + 1 => if (k : Int) = first then inA l first a k else tkA l (inA l first a k) 2
def inB (l : List Int) (first : Int) (a : Nat) (k : Nat) : Bool := decide ((k : Int) = first) || tkV l (inA l first a k) 2 == 1
def inC (all : List Col) (l : List Int) (first : Int) (a : Nat) : Nat → List Col
  | 0 => []
  | k + 1 => inC all l first a k ++ if inB l first a k = true then [all[k]?.getD default] else []
theorem inC_len (all : List Col) (l : List Int) (first : Int) (a : Nat) : ∀ k, (inC all l first a k).length ≤ k
  | 0 => Nat.le_refl _
  | k + 1 => by
    have := inC_len all l first a k
    unfold inC
    rw [List.length_append]
    split <;> simp <;> omega
def sPub (l : List Int) (i a : Nat) : Bool := decide (0 < i) && tkV l (tkA l a 4) 3 == 1
def sA2 (l : List Int) (i a : Nat) : Nat := if 0 < i then tkA l (tkA l a 4) 3 else tkA l a 4
def sFirst (l : List Int) (i a : Nat) : Int := tkV l (sA2 l i a) 5
def sA3 (l : List Int) (i a : Nat) : Nat := tkA l (sA2 l i a) 5
def schOf (all : List Col) (l : List Int) (i a : Nat) : Sch := ⟨nms0[i]?.getD default, sPub l i a, if sPub l i a then 0 else 1 + tkV l a 4, inC all l (sFirst l i a) (sA3 l i a) 5⟩
def schA (l : List Int) (i a : Nat) : Nat := inA l (sFirst l i a) (sA3 l i a) 5
def soA (l : List Int) (a : Nat) : Nat → Nat
  | 0 => a
  | i + 1 => schA l i (soA l a i)
def soC (all : List Col) (l : List Int) (a : Nat) (n : Nat) : List Sch := (List.range n).map fun i => schOf all l i (soA l a i)
theorem soC_succ (all : List Col) (l : List Int) (a n : Nat) : soC all l a (n + 1) = soC all l a n ++ [schOf all l n (soA l a n)] := by
  unfold soC
  rw [List.range_succ, List.map_append]
  rfl
/-- How many schemas, the schemas, and where the Taker stands then. -/
def manyS (l : List Int) : Nat := 1 + (tkV l (allA l 5) 3).toNat
def schemasOf (l : List Int) : List Sch := soC (allC l 5) l (tkA l (allA l 5) 3) (manyS l)
def schemasA (l : List Int) : Nat := soA l (tkA l (allA l 5) 3) (manyS l)

/-- A schema's box, the Taker behind it. -/
def SMet (wr : World) (p : Nat) (v : Value) (l : List Int) (a : Nat) (cs : Array Value) (c : Value) (wc : World) : Prop :=
  ∃ pb, c = .pointer (some ⟨pb, 0, none⟩) ∧ wr.heap.size ≤ pb ∧ wc.heap[pb]? = some (.cells cs 28 (0, 0)) ∧ TkrAt wc p v l a ∧ wr.grownBy wc (some p)
theorem info28 : (Tryd.prog.info? 28).map (fun i => (i.zero, i.size, i.bytes)) = some (some (.agg #[.string ByteArray.empty, .bool false, .int .i64 0, .slice none 0 0]), 4, 56) := by kernel_rfl
/-- A schema's box with its growing columns. -/
structure SIn (wr : World) (p : Nat) (v : Value) (l : List Int) (pb : Nat) (mk : Value → Array Value) (xs : List Col) (a : Nat) (wq : World) : Prop where
  bx : ∃ vc, wq.heap[pb]? = some (.cells (mk vc) 28 (0, 0)) ∧ GInv colK wr p v l vc xs a wq
theorem SIn.take {wr wq W' : World} {p pb a a' : Nat} {v : Value} {l : List Int} {mk : Value → Array Value} {xs : List Col} (h : SIn wr p v l pb mk xs a wq) (hpb : wr.heap.size ≤ pb) (hpl : p < wr.heap.size) (hg : wq.grownBy W' (some p)) (ht : TkrAt W' p v l a') : SIn wr p v l pb mk xs a' W' := by
  obtain ⟨vc, hb, hi⟩ := h.bx
  exact ⟨vc, (hg.block pb (Array.getElem?_eq_some_iff.1 hb).1 (by simp; omega)).trans hb, hi.take (by decide) hg ht⟩
theorem GInv.pushBox {α : Type} {K : Kind α} {w W W' : World} {p a b f : Nat} {v u v' : Value} {l : List Int} {xs : List α} {us lx : List Value} {x : α} {o : Obj} {mk : Value → Array Value} {tb : TypeId} (h : GInv K w p v l u xs a W) (hpl : p < w.heap.size) (hwb : w.heap.size ≤ b) (hbx : W.heap[b]? = some (.cells (mk u) tb (0, 0)))
    (hm1 : ∀ v v', (mk v).setIfInBounds f v' = mk v') (hm2 : (mk u)[f]? = some u) (htb : tb ∉ K.ty :: K.inner) (hin : K.ty ∉ K.inner) (hx : K.is (Own w.heap.size W) W lx x) (hus : (W.alloc o).ownsRow w.heap.size K.ty K.k u xs.length us)
    (hown : W'.ownsRow w.heap.size K.ty K.k v' (xs.length + 1) (us ++ lx)) (hg : (W.alloc o).grownBy W' u.ownBlock) :
    W'.heap[b]? = some (.cells (mk u) tb (0, 0)) ∧ W'.cell? ⟨b, f, none⟩ = some u ∧ W'.frozen? ⟨b, f, none⟩ = false ∧ (W'.setCell ⟨b, f, none⟩ v').heap[b]? = some (.cells (mk v') tb (0, 0)) ∧ GInv K w p v l v' (xs ++ [x]) a (W'.setCell ⟨b, f, none⟩ v') := by
  have hbl := (Array.getElem?_eq_some_iff.1 hbx).1
  have hb1p : (W.alloc o).heap[b]? = some (.cells (mk u) tb (0, 0)) := (heap_alloc_old _ _ hbl).trans hbx
  have hne : some b ≠ u.ownBlock := fun e => by
    obtain ⟨cur, hc⟩ := owned_block hus e.symm
    rw [hb1p] at hc
    simp only [Option.some.injEq, Obj.cells.injEq] at hc
    exact htb (by rw [hc.2.1]; simp)
  have hb1 : W'.heap[b]? = some (.cells (mk u) tb (0, 0)) := (hg.block b (by simp; omega) hne).trans hb1p
  exact ⟨hb1, by simp only [World.cell?, hb1]; simpa using hm2, by simp [World.frozen?, hb1], by rw [heap_setCell_same _ _ _ _ _ _ hb1, hm1], (h.push hpl hin hx hus hown hg).setNew hb1 htb hwb hpl⟩
theorem allC_words (l : List Int) (n : Nat) : ∀ c ∈ allC l n, c.words.length ≤ 5 := by
  intro c hc
  obtain ⟨i, _, rfl⟩ := List.mem_map.1 hc
  exact colOf_words _ _ _
theorem cell_lt {w : World} {b o : Nat} {v : Value} (h : w.cell? ⟨b, o, none⟩ = some v) : b < w.heap.size := by
  rcases Nat.lt_or_ge b w.heap.size with h1 | h1
  · exact h1
  · simp [World.cell?, Array.getElem?_eq_none_iff.2 h1] at h
theorem box_same {wc w5 w6 : World} {pb b n : Nat} {c o : Obj} {r : Option Nat} (hb5 : Below wc.heap.size wc w5) (hg : (w5.alloc o).grownBy w6 r) (hr : ∀ k, r = some k → n ≤ k) (hbn : b < n) (hn : n ≤ wc.heap.size) (h0 : wc.heap[pb]? = some c) (h1 : w6.heap[pb]? = some c) : IsSame wc (fun k => k = pb ∨ k = b) w6 :=
  isSame_of fun k hk => by
    have hs := hb5.size
    rcases hk with hk | hk <;> rw [hk]
    · rw [h0, h1]
    · exact (hg.block b (by simp; omega) fun e => by have := hr b e.symm; omega).trans ((heap_alloc_old _ _ (by omega)).trans (hb5.block b (by omega)))
/-- A column of the list, and where it lies. -/
theorem col_at {w : World} {A : Option Addr} {c : Nat} {all : List Col} (h : SRow colK Any w (.slice A 5 c) all) (hl : all.length = 5) {k : Nat} (hk : k < 5) :
    ∃ b o u, A = some ⟨b, o, none⟩ ∧ 5 ≤ c ∧ c ≤ maxLen ∧ w.cell? ⟨b, o + k * 4, none⟩ = some (.string (all[k]?.getD default).name) ∧ w.cell? ⟨b, o + k * 4 + 1, none⟩ = some (.int .i64 (all[k]?.getD default).lo) ∧ w.cell? ⟨b, o + k * 4 + 2, none⟩ = some (.int .i64 (all[k]?.getD default).hi) ∧ w.cell? ⟨b, o + k * 4 + 3, none⟩ = some u ∧ SRow strK Any w u (all[k]?.getD default).words ∧
      ((all[k]?.getD default).name.size ≤ maxLen ∧ Fit (all[k]?.getD default).lo ∧ Fit (all[k]?.getD default).hi) := by
  obtain ⟨A', c', e, h1, h2, h3⟩ := h.cols
  rw [hl] at e h1
  simp only [Value.slice.injEq] at e
  obtain ⟨rfl, _, rfl⟩ := e
  obtain ⟨b, o, eA, hc⟩ := h3 (by omega)
  obtain ⟨u, q0, q1, q2, q3, hw, hf⟩ := hc k (by omega)
  have ex : all[k]?.getD default = all[k] := by simp [show k < all.length by omega]
  rw [ex]
  exact ⟨b, o, u, eA, h1, h2, q0, q1, q2, q3, hw, hf⟩
attribute [local go_sem] Oper.semAt_some
set_option maxRecDepth 100000 in
set_option maxHeartbeats 16000000 in
theorem schemas_gen (p : Nat) (v : Value) (l : List Int) (w : World) (h : TkrAt w p v l 0) :
    Calls Tryd.prog 53 #[.pointer (some ⟨p, 0, none⟩)] w fun e w' => ∃ u, e = .returned u ∧ OSeq schK w.heap.size w' u (schemasOf l) ∧ TkrAt w' p v l (schemasA l) ∧ w.grownBy w' (some p) := by
  have HT := Lib.hid h
  have hpl : p < w.heap.size := (Array.getElem?_eq_some_iff.1 h.bx).1
  clear h
  obtain ⟨i25, hi25, hz20, hz21, hz22⟩ := info_parts info25
  obtain ⟨i28, hi28, hz80, hz81, hz82⟩ := info_parts info28
  refine (callsIn_wide (n := 6)).1 ?_
  have h1 : 1 ≤ 6 := by omega
  refine callsIn_of_wp Tryd.func53 rfl trivial ?_ rfl
  simp only [Tryd.ntmps53, List.size_toArray, List.length_cons, List.length_nil, Nat.reduceAdd, Nat.reduceSub, Array.replicate_succ, Array.replicate_zero, List.push_toArray, List.append_toArray, List.nil_append, List.cons_append]
  gi_wp2
  gi_loopw [3, 4] (fun u i wr => ∃ k : Nat, k ≤ 5 ∧ i = .int .i64 k ∧ GInv colK w p v l u (allC l k) (allA l k) wr) (fun _ i _ => 5 - (intOf i).toNat)
  case atStart => exact ⟨0, by omega, rfl, OSeq.nil _ _ _, HT.out, rfl, rfl, rfl, Nat.le_refl _, fun _ _ _ => rfl⟩
  case round =>
    obtain ⟨k, hk, rfl, hinv⟩ := hrel
    have hlen : (allC l k).length = k := by simp [allC]
    obtain ⟨Au, cu, e, _, _⟩ := hinv.seq.slice
    rw [hlen] at e
    subst e
    have HI := Lib.hid hinv
    have HLEN := Lib.hid hlen
    have hsr := hinv.g.size
    have hpr : p < wr.heap.size := by omega
    clear hinv hlen
    have hi0 : (0 : Int) ≤ (k : Int) := by omega
    by_cases hlt : k < 5
    · have hi1 : (k : Int) < 5 := by omega
      obtain ⟨nm, hnm, hnz⟩ := nms1_at k hlt
      have HBN := Lib.hid (below_alloc wr (.cells (nms1.map strV).toArray 9))
      have ynm := names_cell (heap_alloc_new wr (.cells (nms1.map strV).toArray 9)) hnm
      have HCO := Lib.hid (colOf_ok l (allA l k) nm hnz)
      have HSC := Lib.hid (show allC l (k + 1) = allC l k ++ [colOf l (allA l k) nm] by rw [allC_succ, hnm]; rfl)
      have HAA := Lib.hid (show allA l (k + 1) = colA l (allA l k) from rfl)
      have HLT := Lib.hid hlt
      clear hlt hnm
      gi_wp2_with (first
        | (refine ⟨trivial, ?_⟩; gi_at_call 75; refine (callsIn_wide.2 (names1_any _)).mono ?_; rintro e w2 ⟨rfl, rfl⟩)
        | (refine ⟨trivial, ?_⟩; gi_at_call 74; go_loud (refine (callsIn_wide.2 (column_gen p v l (allA l k) nm _ (HI.out.later HBN.out).tk)).mono ?_; rintro e w3 ⟨u3, rfl, ho3, ht3, hg3⟩; generalize colOf l (allA l k) nm = c at *; obtain ⟨A3, c3, rfl, _, _⟩ := ho3.slice; have hi3 := (HI.out.later HBN.out).take (by decide) hg3 ht3; obtain ⟨us, hus⟩ := hi3.us (.cells (colCells c (.slice A3 c.words.length c3)) 25); rw [HLEN.out] at hus; have HUS := Lib.hid hus; have HI3 := Lib.hid hi3; have hs3 := hg3.size; simp at hs3; have HKX := Lib.hid (show colK.is (Own w.heap.size w3) w3 [.string c.name, .int .i64 c.lo, .int .i64 c.hi, .slice A3 c.words.length c3] c from ⟨_, rfl, (ho3.base_le (by simp; omega)).row, HCO.out⟩); have HNW := Lib.hid (four_new w3 (.string c.name) (.int .i64 c.lo) (.int .i64 c.hi) (.slice A3 c.words.length c3) 25); clear ho3 ht3 hg3 hi3 hus; simp only [colCells]))
        | (gi_at_builtin; go_loud (refine wpListIn_append_own _ rfl _ _ 26 rfl w.heap.size 25 i25 _ 4 56 Tryd.underlying26 hi25 hz20 hz21 hz22 rfl (by decide) _ _ us rfl HUS.out ⟨w3.heap.size, 0, none⟩ 1 1 [.string c.name, .int .i64 c.lo, .int .i64 c.hi, .slice A3 c.words.length c3] rfl rfl HNW.out (by simp [Value.oneCell']) (by unfold maxLen; omega) (by omega) (by simp; omega) ?_; intro v1 w6 hown1 hgrow1 _; obtain ⟨Av1, cv1, rfl⟩ := slice_of hown1; have HST := Lib.hid (HI3.out.push hpl (by decide) HKX.out (by rw [HLEN.out]; exact HUS.out) (by rw [HLEN.out]; exact hown1) hgrow1); clear hown1 hgrow1)))
      go_roundw
      case rel => exact ⟨k + 1, HLT.out, by go_num, by rw [HSC.out, HAA.out]; exact HST.out⟩
      case measure => have := HLT.out; simp [intOf]; omega
    · obtain rfl : k = 5 := by omega
      have hm := tkV_lt l (allA l 5) (n := 3) (by omega)
      obtain ⟨y, hy⟩ : ∃ y : Nat, tkV l (allA l 5) 3 = (y : Int) := ⟨(tkV l (allA l 5) 3).toNat, by omega⟩
      have HMS := Lib.hid (show manyS l = 1 + y by unfold manyS; rw [hy]; omega)
      have hy2 : y ≤ 2 := by omega
      have HY := Lib.hid hy
      clear hm hy hlt
      gi_wp2_with (refine ⟨trivial, ?_⟩; gi_at_call 54; refine (callsIn_wide.2 (take_any p v l (allA l 5) 3 _ HI.out.tk (by omega) (by omega))).mono ?_; rintro e w4 ⟨rfl, ht4, hg4⟩; rw [HY.out]; have HOWN := Lib.hid (HI.out.seq.grownP hg4 HI.out.tk.bx (by decide)); have HALL := Lib.hid HOWN.out.any; have HT4 := Lib.hid ht4; have HG4 := Lib.hid (HI.out.g.trans hg4); clear ht4 hg4)
      have HALS := Lib.hid (show SRow colK Any w4 (.slice Au 5 cu) (allC l 5) from HALL.out)
      have hp4 : p < w4.heap.size := by have := HG4.out.size; omega
      have HW4 := Lib.hid HG4.out.size
      have HOA := Lib.hid (show ∀ W, w4.grownBy W (some p) → SRow colK Any W (.slice Au 5 cu) (allC l 5) from fun W hg => (HOWN.out.grownP hg HT4.out.bx (by decide)).any)
      generalize hall : allC l 5 = all at *
      have HALLE := Lib.hid hall
      generalize hA0 : tkA l (allA l 5) 3 = A0 at *
      have HA0 := Lib.hid hA0
      clear hall hA0
      gi_loopw [6, 7] (fun u i wr => ∃ k : Nat, k ≤ 1 + y ∧ i = .int .i64 k ∧ GInv schK w4 p v l u (soC all l A0 k) (soA l A0 k) wr) (fun _ i _ => 1 + y - (intOf i).toNat)
      case atStart => exact ⟨0, by omega, rfl, OSeq.nil _ _ _, HT4.out, rfl, rfl, rfl, Nat.le_refl _, fun _ _ _ => rfl⟩
      case round =>
        obtain ⟨i, hi, rfl, hinv⟩ := hrel
        have hlen : (soC all l A0 i).length = i := by simp [soC]
        obtain ⟨Av, cv, e, _, _⟩ := hinv.seq.slice
        rw [hlen] at e
        subst e
        have HI2 := Lib.hid hinv
        have HLN2 := Lib.hid hlen
        have hsr2 := hinv.g.size
        have hpr2 : p < wr.heap.size := by omega
        clear hinv hlen
        have hj0 : (0 : Int) ≤ (i : Int) := by omega
        by_cases hlt : i < 1 + y
        · have hj1 : (i : Int) < 1 + (y : Int) := by omega
          have hj4 : (i : Int) < 4 := by omega
          obtain ⟨nm, hnm, hnz⟩ := nms0_at i (by omega)
          have HNM := Lib.hid hnm
          have hz := tkV_lt l (soA l A0 i) (n := 4) (by omega)
          have HSE := Lib.hid (show soC all l A0 (i + 1) = soC all l A0 i ++ [schOf all l i (soA l A0 i)] ∧ soA l A0 (i + 1) = schA l i (soA l A0 i) from ⟨soC_succ _ _ _ _, rfl⟩)
          generalize hA : soA l A0 i = A at *
          generalize hzz : tkV l A 4 = z at *
          have HZ := Lib.hid hzz
          obtain ⟨hz0, hz1⟩ := hz
          have HLT := Lib.hid hlt
          have hmx : Tryd.prog.follows .mixedOrders = true := by kernel_rfl
          have HTC := Lib.hid (show TkrAt wr.drew p v l A from HI2.out.tk.later ⟨rfl, rfl, rfl, Nat.le_refl _, fun _ _ => rfl⟩)
          have HGC := Lib.hid (show wr.grownBy wr.drew (some p) from ⟨rfl, rfl, rfl, Nat.le_refl _, fun _ _ _ => rfl⟩)
          clear hlt hnm hA hzz
          gi_upto_region 11 with fail
          gi_cut [8] from 78 (fun c wc => SMet wr p v l (tkA l A 4) #[.string nm, .bool false, .int .i64 (1 + z), .slice none 0 0] c wc)
          case first =>
            gi_wp2
            refine wpIn_stage (IsSame wr (fun _ => False)) [1, 2, 4, 6, 7] [9] hmx (by kernel_rfl) (sameNone _ _) ?_
            change wpStage _ _ _ _ _ _ _ _ (8 + 2) _ _ _
            refine stage_reads [1, 4] 8 _ _ (by kernel_rfl) ?_
            change wpQuietIn _ _ _ _ (fun W => ∃ x : SameAt wr (fun _ => False), W = x.W) _ _ _
            simp only [pick_cons, pick_nil, List.getElem?_cons_zero, List.getElem?_cons_succ, Option.elim_some]
            repeat (gi_big_quiet_step (fail))
            refine wpQuietIn_nil ?g
            case' g =>
              generalize wr.drew = Wd at *
              refine stage_two 0 8 (by kernel_rfl) rfl rfl ?g0 ?g8
            case' g0 =>
              gi_wp2_with (refine ⟨trivial, ?_⟩; gi_at_call 75; refine (callsIn_wide.2 (names0_ex _)).mono ?_; rintro e Wd0 ⟨nb, rfl, hnbs, hnb, hn0⟩; have HNB := Lib.hid (show p < nb by (have := HGC.out.size; omega)); have HTC := Lib.hid (HTC.out.later hn0); have HGC := Lib.hid (HGC.out.trans (grown_of_below hn0 (some p))); have HN := Lib.hid hnb; clear hnb hn0 hnbs)
              refine stage_post (sameNone _ _) ?_
              change wpStage _ _ _ _ _ _ _ _ (6 + 1) _ _ _
              refine stage_reads [2] 6 _ _ (by kernel_rfl) ?_
              change wpQuietIn _ _ _ _ (fun W => ∃ x : SameAt wr (fun _ => False), W = x.W) _ _ _
              simp only [pick_cons, pick_nil, List.getElem?_cons_zero, List.getElem?_cons_succ, Option.elim_some]
              repeat (gi_big_quiet_step (fail))
              refine wpQuietIn_nil ?_
            case' g0 =>
              refine stage_three 3 5 8 (by kernel_rfl) rfl rfl rfl ?g03 ?g05 ?g08
            case' g03 =>
              have ynm := names_cell HN.out HNM.out
              gi_wp2
              clear ynm
              refine stage_post (sameNone _ _) ?_
            case' g03 =>
              refine stage_two 5 8 (by kernel_rfl) rfl rfl ?g035 ?g038
            case' g035 =>
              gi_wp2_with (refine ⟨trivial, ?_⟩; gi_at_call 54; refine (callsIn_wide.2 (take_any p v l _ 4 _ HTC.out (by omega) (by omega))).mono ?_; rintro e Wd05 ⟨rfl, ht3, hg3⟩; rw [HZ.out]; have HN := Lib.hid ((hg3.block nb (Array.getElem?_eq_some_iff.1 HN.out).1 (by have := HNB.out; simp; omega)).trans HN.out); have HTC := Lib.hid ht3; have HGC := Lib.hid (HGC.out.trans hg3); clear ht3 hg3)
              refine stage_post (sameNone _ _) ?_
              change wpStage _ _ _ _ _ _ _ _ (2 + 2) _ _ _
              refine stage_reads [6, 7] 2 _ _ (by kernel_rfl) ?_
              change wpQuietIn _ _ _ _ (fun W => ∃ x : SameAt wr (fun _ => False), W = x.W) _ _ _
              simp only [pick_cons, pick_nil, List.getElem?_cons_zero, List.getElem?_cons_succ, Option.elim_some]
              repeat (gi_big_quiet_step (fail))
              refine wpQuietIn_nil ?_
            case' g035 =>
              refine stage_one 8 (by kernel_rfl) rfl ?_
            case' g035 =>
              gi_wp2
              refine stage_post (sameNone _ _) ?_
              change wpStage _ _ _ _ _ _ _ _ _ _ _ (Wd05.alloc (.cells #[.string ByteArray.empty, .bool false, .int .i64 0, .slice none 0 0] 28))
              have HBX := Lib.hid (heap_alloc_new Wd05 (.cells #[.string ByteArray.empty, .bool false, .int .i64 0, .slice none 0 0] 28))
              have HN := Lib.hid ((heap_alloc_old Wd05 (.cells #[.string ByteArray.empty, .bool false, .int .i64 0, .slice none 0 0] 28) (Array.getElem?_eq_some_iff.1 HN.out).1).trans HN.out)
              have HPB := Lib.hid (show wr.heap.size ≤ Wd05.heap.size from HGC.out.size)
              have HTC := Lib.hid (HTC.out.later (below_alloc Wd05 (.cells #[.string ByteArray.empty, .bool false, .int .i64 0, .slice none 0 0] 28)))
              have HGC := Lib.hid (HGC.out.trans (grown_of_below (below_alloc Wd05 (.cells #[.string ByteArray.empty, .bool false, .int .i64 0, .slice none 0 0] 28)) (some p)))
              generalize Wd05.heap.size = pb at *
              generalize Wd05.alloc (.cells #[.string ByteArray.empty, .bool false, .int .i64 0, .slice none 0 0] 28) = Wd058 at *
            case' g035 =>
              refine stage_one 9 (by kernel_rfl) rfl ?_
              obtain ⟨b0, bf0⟩ := cellrow HBX.out 0 (by simp)
              obtain ⟨b1, bf1⟩ := cellrow HBX.out 1 (by simp)
              obtain ⟨b2, bf2⟩ := cellrow HBX.out 2 (by simp)
              obtain ⟨b3, bf3⟩ := cellrow HBX.out 3 (by simp)
              have hpbl := (Array.getElem?_eq_some_iff.1 HBX.out).1
              gi_wp2
              refine stage_last rfl ?_
              refine stage_done (by kernel_rfl) ?_
              have HB5 := Lib.hid (box_filled HBX.out (.string nm) (.bool false) (.int .i64 (1 + z)) (.slice none 0 0))
              have HT5 := Lib.hid (TkrAt.set4 (u0 := .string nm) (u1 := .bool false) (u2 := .int .i64 (1 + z)) (u3 := .slice none 0 0) HTC.out (show p < pb by (have := HPB.out; omega)))
              have HG5 := Lib.hid (set4_new (u0 := .string nm) (u1 := .bool false) (u2 := .int .i64 (1 + z)) (u3 := .slice none 0 0) HGC.out HPB.out)
              clear b0 b1 b2 b3 bf0 bf1 bf2 bf3 HBX HTC HGC hpbl
              generalize (((Wd058.setCell ⟨pb, 0, none⟩ (.string nm)).setCell ⟨pb, 1, none⟩ (.bool false)).setCell ⟨pb, 2, none⟩ (.int .i64 (1 + z))).setCell ⟨pb, 3, none⟩ (.slice none 0 0) = W9 at *
            case' g038 =>
              gi_wp2
              refine stage_post (sameNone _ _) ?_
              change wpStage _ _ _ _ _ _ _ _ _ _ _ (Wd0.alloc (.cells #[.string ByteArray.empty, .bool false, .int .i64 0, .slice none 0 0] 28))
              have HBX := Lib.hid (heap_alloc_new Wd0 (.cells #[.string ByteArray.empty, .bool false, .int .i64 0, .slice none 0 0] 28))
              have HN := Lib.hid ((heap_alloc_old Wd0 (.cells #[.string ByteArray.empty, .bool false, .int .i64 0, .slice none 0 0] 28) (Array.getElem?_eq_some_iff.1 HN.out).1).trans HN.out)
              have HPB := Lib.hid (show wr.heap.size ≤ Wd0.heap.size from HGC.out.size)
              have HTC := Lib.hid (HTC.out.later (below_alloc Wd0 (.cells #[.string ByteArray.empty, .bool false, .int .i64 0, .slice none 0 0] 28)))
              have HGC := Lib.hid (HGC.out.trans (grown_of_below (below_alloc Wd0 (.cells #[.string ByteArray.empty, .bool false, .int .i64 0, .slice none 0 0] 28)) (some p)))
              generalize Wd0.heap.size = pb at *
              generalize Wd0.alloc (.cells #[.string ByteArray.empty, .bool false, .int .i64 0, .slice none 0 0] 28) = Wd08 at *
            case' g038 =>
              refine stage_one 5 (by kernel_rfl) rfl ?_
            case' g038 =>
              gi_wp2_with (refine ⟨trivial, ?_⟩; gi_at_call 54; refine (callsIn_wide.2 (take_any p v l _ 4 _ HTC.out (by omega) (by omega))).mono ?_; rintro e Wd085 ⟨rfl, ht3, hg3⟩; rw [HZ.out]; have HN := Lib.hid ((hg3.block nb (Array.getElem?_eq_some_iff.1 HN.out).1 (by have := HNB.out; simp; omega)).trans HN.out); have HBX := Lib.hid ((hg3.block pb (Array.getElem?_eq_some_iff.1 HBX.out).1 (by have := HPB.out; simp; omega)).trans HBX.out); have HTC := Lib.hid ht3; have HGC := Lib.hid (HGC.out.trans hg3); clear ht3 hg3)
              refine stage_post (sameNone _ _) ?_
              change wpStage _ _ _ _ _ _ _ _ (1 + 2) _ _ _
              refine stage_reads [6, 7] 1 _ _ (by kernel_rfl) ?_
              change wpQuietIn _ _ _ _ (fun W => ∃ x : SameAt wr (fun _ => False), W = x.W) _ _ _
              simp only [pick_cons, pick_nil, List.getElem?_cons_zero, List.getElem?_cons_succ, Option.elim_some]
              repeat (gi_big_quiet_step (fail))
              refine wpQuietIn_nil ?_
            case' g038 =>
              refine stage_one 9 (by kernel_rfl) rfl ?_
              obtain ⟨b0, bf0⟩ := cellrow HBX.out 0 (by simp)
              obtain ⟨b1, bf1⟩ := cellrow HBX.out 1 (by simp)
              obtain ⟨b2, bf2⟩ := cellrow HBX.out 2 (by simp)
              obtain ⟨b3, bf3⟩ := cellrow HBX.out 3 (by simp)
              have hpbl := (Array.getElem?_eq_some_iff.1 HBX.out).1
              gi_wp2
              refine stage_last rfl ?_
              refine stage_done (by kernel_rfl) ?_
              have HB5 := Lib.hid (box_filled HBX.out (.string nm) (.bool false) (.int .i64 (1 + z)) (.slice none 0 0))
              have HT5 := Lib.hid (TkrAt.set4 (u0 := .string nm) (u1 := .bool false) (u2 := .int .i64 (1 + z)) (u3 := .slice none 0 0) HTC.out (show p < pb by (have := HPB.out; omega)))
              have HG5 := Lib.hid (set4_new (u0 := .string nm) (u1 := .bool false) (u2 := .int .i64 (1 + z)) (u3 := .slice none 0 0) HGC.out HPB.out)
              clear b0 b1 b2 b3 bf0 bf1 bf2 bf3 HBX HTC HGC hpbl
              generalize (((Wd085.setCell ⟨pb, 0, none⟩ (.string nm)).setCell ⟨pb, 1, none⟩ (.bool false)).setCell ⟨pb, 2, none⟩ (.int .i64 (1 + z))).setCell ⟨pb, 3, none⟩ (.slice none 0 0) = W9 at *
            case' g05 =>
              gi_wp2_with (refine ⟨trivial, ?_⟩; gi_at_call 54; refine (callsIn_wide.2 (take_any p v l _ 4 _ HTC.out (by omega) (by omega))).mono ?_; rintro e Wd05 ⟨rfl, ht3, hg3⟩; rw [HZ.out]; have HN := Lib.hid ((hg3.block nb (Array.getElem?_eq_some_iff.1 HN.out).1 (by have := HNB.out; simp; omega)).trans HN.out); have HTC := Lib.hid ht3; have HGC := Lib.hid (HGC.out.trans hg3); clear ht3 hg3)
              refine stage_post (sameNone _ _) ?_
              change wpStage _ _ _ _ _ _ _ _ (4 + 1) _ _ _
              refine stage_reads [6] 4 _ _ (by kernel_rfl) ?_
              change wpQuietIn _ _ _ _ (fun W => ∃ x : SameAt wr (fun _ => False), W = x.W) _ _ _
              simp only [pick_cons, pick_nil, List.getElem?_cons_zero, List.getElem?_cons_succ, Option.elim_some]
              repeat (gi_big_quiet_step (fail))
              refine wpQuietIn_nil ?_
            case' g05 =>
              refine stage_two 3 8 (by kernel_rfl) rfl rfl ?g053 ?g058
            case' g053 =>
              have ynm := names_cell HN.out HNM.out
              gi_wp2
              clear ynm
              refine stage_post (sameNone _ _) ?_
              change wpStage _ _ _ _ _ _ _ _ (2 + 1) _ _ _
              refine stage_reads [7] 2 _ _ (by kernel_rfl) ?_
              change wpQuietIn _ _ _ _ (fun W => ∃ x : SameAt wr (fun _ => False), W = x.W) _ _ _
              simp only [pick_cons, pick_nil, List.getElem?_cons_zero, List.getElem?_cons_succ, Option.elim_some]
              repeat (gi_big_quiet_step (fail))
              refine wpQuietIn_nil ?_
            case' g053 =>
              refine stage_one 8 (by kernel_rfl) rfl ?_
            case' g053 =>
              gi_wp2
              refine stage_post (sameNone _ _) ?_
              change wpStage _ _ _ _ _ _ _ _ _ _ _ (Wd05.alloc (.cells #[.string ByteArray.empty, .bool false, .int .i64 0, .slice none 0 0] 28))
              have HBX := Lib.hid (heap_alloc_new Wd05 (.cells #[.string ByteArray.empty, .bool false, .int .i64 0, .slice none 0 0] 28))
              have HN := Lib.hid ((heap_alloc_old Wd05 (.cells #[.string ByteArray.empty, .bool false, .int .i64 0, .slice none 0 0] 28) (Array.getElem?_eq_some_iff.1 HN.out).1).trans HN.out)
              have HPB := Lib.hid (show wr.heap.size ≤ Wd05.heap.size from HGC.out.size)
              have HTC := Lib.hid (HTC.out.later (below_alloc Wd05 (.cells #[.string ByteArray.empty, .bool false, .int .i64 0, .slice none 0 0] 28)))
              have HGC := Lib.hid (HGC.out.trans (grown_of_below (below_alloc Wd05 (.cells #[.string ByteArray.empty, .bool false, .int .i64 0, .slice none 0 0] 28)) (some p)))
              generalize Wd05.heap.size = pb at *
              generalize Wd05.alloc (.cells #[.string ByteArray.empty, .bool false, .int .i64 0, .slice none 0 0] 28) = Wd058 at *
            case' g053 =>
              refine stage_one 9 (by kernel_rfl) rfl ?_
              obtain ⟨b0, bf0⟩ := cellrow HBX.out 0 (by simp)
              obtain ⟨b1, bf1⟩ := cellrow HBX.out 1 (by simp)
              obtain ⟨b2, bf2⟩ := cellrow HBX.out 2 (by simp)
              obtain ⟨b3, bf3⟩ := cellrow HBX.out 3 (by simp)
              have hpbl := (Array.getElem?_eq_some_iff.1 HBX.out).1
              gi_wp2
              refine stage_last rfl ?_
              refine stage_done (by kernel_rfl) ?_
              have HB5 := Lib.hid (box_filled HBX.out (.string nm) (.bool false) (.int .i64 (1 + z)) (.slice none 0 0))
              have HT5 := Lib.hid (TkrAt.set4 (u0 := .string nm) (u1 := .bool false) (u2 := .int .i64 (1 + z)) (u3 := .slice none 0 0) HTC.out (show p < pb by (have := HPB.out; omega)))
              have HG5 := Lib.hid (set4_new (u0 := .string nm) (u1 := .bool false) (u2 := .int .i64 (1 + z)) (u3 := .slice none 0 0) HGC.out HPB.out)
              clear b0 b1 b2 b3 bf0 bf1 bf2 bf3 HBX HTC HGC hpbl
              generalize (((Wd058.setCell ⟨pb, 0, none⟩ (.string nm)).setCell ⟨pb, 1, none⟩ (.bool false)).setCell ⟨pb, 2, none⟩ (.int .i64 (1 + z))).setCell ⟨pb, 3, none⟩ (.slice none 0 0) = W9 at *
            case' g058 =>
              gi_wp2
              refine stage_post (sameNone _ _) ?_
              change wpStage _ _ _ _ _ _ _ _ _ _ _ (Wd05.alloc (.cells #[.string ByteArray.empty, .bool false, .int .i64 0, .slice none 0 0] 28))
              have HBX := Lib.hid (heap_alloc_new Wd05 (.cells #[.string ByteArray.empty, .bool false, .int .i64 0, .slice none 0 0] 28))
              have HN := Lib.hid ((heap_alloc_old Wd05 (.cells #[.string ByteArray.empty, .bool false, .int .i64 0, .slice none 0 0] 28) (Array.getElem?_eq_some_iff.1 HN.out).1).trans HN.out)
              have HPB := Lib.hid (show wr.heap.size ≤ Wd05.heap.size from HGC.out.size)
              have HTC := Lib.hid (HTC.out.later (below_alloc Wd05 (.cells #[.string ByteArray.empty, .bool false, .int .i64 0, .slice none 0 0] 28)))
              have HGC := Lib.hid (HGC.out.trans (grown_of_below (below_alloc Wd05 (.cells #[.string ByteArray.empty, .bool false, .int .i64 0, .slice none 0 0] 28)) (some p)))
              generalize Wd05.heap.size = pb at *
              generalize Wd05.alloc (.cells #[.string ByteArray.empty, .bool false, .int .i64 0, .slice none 0 0] 28) = Wd058 at *
            case' g058 =>
              refine stage_one 3 (by kernel_rfl) rfl ?_
            case' g058 =>
              have ynm := names_cell HN.out HNM.out
              gi_wp2
              clear ynm
              refine stage_post (sameNone _ _) ?_
              change wpStage _ _ _ _ _ _ _ _ (1 + 1) _ _ _
              refine stage_reads [7] 1 _ _ (by kernel_rfl) ?_
              change wpQuietIn _ _ _ _ (fun W => ∃ x : SameAt wr (fun _ => False), W = x.W) _ _ _
              simp only [pick_cons, pick_nil, List.getElem?_cons_zero, List.getElem?_cons_succ, Option.elim_some]
              repeat (gi_big_quiet_step (fail))
              refine wpQuietIn_nil ?_
            case' g058 =>
              refine stage_one 9 (by kernel_rfl) rfl ?_
              obtain ⟨b0, bf0⟩ := cellrow HBX.out 0 (by simp)
              obtain ⟨b1, bf1⟩ := cellrow HBX.out 1 (by simp)
              obtain ⟨b2, bf2⟩ := cellrow HBX.out 2 (by simp)
              obtain ⟨b3, bf3⟩ := cellrow HBX.out 3 (by simp)
              have hpbl := (Array.getElem?_eq_some_iff.1 HBX.out).1
              gi_wp2
              refine stage_last rfl ?_
              refine stage_done (by kernel_rfl) ?_
              have HB5 := Lib.hid (box_filled HBX.out (.string nm) (.bool false) (.int .i64 (1 + z)) (.slice none 0 0))
              have HT5 := Lib.hid (TkrAt.set4 (u0 := .string nm) (u1 := .bool false) (u2 := .int .i64 (1 + z)) (u3 := .slice none 0 0) HTC.out (show p < pb by (have := HPB.out; omega)))
              have HG5 := Lib.hid (set4_new (u0 := .string nm) (u1 := .bool false) (u2 := .int .i64 (1 + z)) (u3 := .slice none 0 0) HGC.out HPB.out)
              clear b0 b1 b2 b3 bf0 bf1 bf2 bf3 HBX HTC HGC hpbl
              generalize (((Wd058.setCell ⟨pb, 0, none⟩ (.string nm)).setCell ⟨pb, 1, none⟩ (.bool false)).setCell ⟨pb, 2, none⟩ (.int .i64 (1 + z))).setCell ⟨pb, 3, none⟩ (.slice none 0 0) = W9 at *
            case' g08 =>
              gi_wp2
              refine stage_post (sameNone _ _) ?_
              change wpStage _ _ _ _ _ _ _ _ _ _ _ (Wd0.alloc (.cells #[.string ByteArray.empty, .bool false, .int .i64 0, .slice none 0 0] 28))
              have HBX := Lib.hid (heap_alloc_new Wd0 (.cells #[.string ByteArray.empty, .bool false, .int .i64 0, .slice none 0 0] 28))
              have HN := Lib.hid ((heap_alloc_old Wd0 (.cells #[.string ByteArray.empty, .bool false, .int .i64 0, .slice none 0 0] 28) (Array.getElem?_eq_some_iff.1 HN.out).1).trans HN.out)
              have HPB := Lib.hid (show wr.heap.size ≤ Wd0.heap.size from HGC.out.size)
              have HTC := Lib.hid (HTC.out.later (below_alloc Wd0 (.cells #[.string ByteArray.empty, .bool false, .int .i64 0, .slice none 0 0] 28)))
              have HGC := Lib.hid (HGC.out.trans (grown_of_below (below_alloc Wd0 (.cells #[.string ByteArray.empty, .bool false, .int .i64 0, .slice none 0 0] 28)) (some p)))
              generalize Wd0.heap.size = pb at *
              generalize Wd0.alloc (.cells #[.string ByteArray.empty, .bool false, .int .i64 0, .slice none 0 0] 28) = Wd08 at *
            case' g08 =>
              refine stage_two 3 5 (by kernel_rfl) rfl rfl ?g083 ?g085
            case' g083 =>
              have ynm := names_cell HN.out HNM.out
              gi_wp2
              clear ynm
              refine stage_post (sameNone _ _) ?_
            case' g083 =>
              refine stage_one 5 (by kernel_rfl) rfl ?_
            case' g083 =>
              gi_wp2_with (refine ⟨trivial, ?_⟩; gi_at_call 54; refine (callsIn_wide.2 (take_any p v l _ 4 _ HTC.out (by omega) (by omega))).mono ?_; rintro e Wd085 ⟨rfl, ht3, hg3⟩; rw [HZ.out]; have HN := Lib.hid ((hg3.block nb (Array.getElem?_eq_some_iff.1 HN.out).1 (by have := HNB.out; simp; omega)).trans HN.out); have HBX := Lib.hid ((hg3.block pb (Array.getElem?_eq_some_iff.1 HBX.out).1 (by have := HPB.out; simp; omega)).trans HBX.out); have HTC := Lib.hid ht3; have HGC := Lib.hid (HGC.out.trans hg3); clear ht3 hg3)
              refine stage_post (sameNone _ _) ?_
              change wpStage _ _ _ _ _ _ _ _ (1 + 2) _ _ _
              refine stage_reads [6, 7] 1 _ _ (by kernel_rfl) ?_
              change wpQuietIn _ _ _ _ (fun W => ∃ x : SameAt wr (fun _ => False), W = x.W) _ _ _
              simp only [pick_cons, pick_nil, List.getElem?_cons_zero, List.getElem?_cons_succ, Option.elim_some]
              repeat (gi_big_quiet_step (fail))
              refine wpQuietIn_nil ?_
            case' g083 =>
              refine stage_one 9 (by kernel_rfl) rfl ?_
              obtain ⟨b0, bf0⟩ := cellrow HBX.out 0 (by simp)
              obtain ⟨b1, bf1⟩ := cellrow HBX.out 1 (by simp)
              obtain ⟨b2, bf2⟩ := cellrow HBX.out 2 (by simp)
              obtain ⟨b3, bf3⟩ := cellrow HBX.out 3 (by simp)
              have hpbl := (Array.getElem?_eq_some_iff.1 HBX.out).1
              gi_wp2
              refine stage_last rfl ?_
              refine stage_done (by kernel_rfl) ?_
              have HB5 := Lib.hid (box_filled HBX.out (.string nm) (.bool false) (.int .i64 (1 + z)) (.slice none 0 0))
              have HT5 := Lib.hid (TkrAt.set4 (u0 := .string nm) (u1 := .bool false) (u2 := .int .i64 (1 + z)) (u3 := .slice none 0 0) HTC.out (show p < pb by (have := HPB.out; omega)))
              have HG5 := Lib.hid (set4_new (u0 := .string nm) (u1 := .bool false) (u2 := .int .i64 (1 + z)) (u3 := .slice none 0 0) HGC.out HPB.out)
              clear b0 b1 b2 b3 bf0 bf1 bf2 bf3 HBX HTC HGC hpbl
              generalize (((Wd085.setCell ⟨pb, 0, none⟩ (.string nm)).setCell ⟨pb, 1, none⟩ (.bool false)).setCell ⟨pb, 2, none⟩ (.int .i64 (1 + z))).setCell ⟨pb, 3, none⟩ (.slice none 0 0) = W9 at *
            case' g085 =>
              gi_wp2_with (refine ⟨trivial, ?_⟩; gi_at_call 54; refine (callsIn_wide.2 (take_any p v l _ 4 _ HTC.out (by omega) (by omega))).mono ?_; rintro e Wd085 ⟨rfl, ht3, hg3⟩; rw [HZ.out]; have HN := Lib.hid ((hg3.block nb (Array.getElem?_eq_some_iff.1 HN.out).1 (by have := HNB.out; simp; omega)).trans HN.out); have HBX := Lib.hid ((hg3.block pb (Array.getElem?_eq_some_iff.1 HBX.out).1 (by have := HPB.out; simp; omega)).trans HBX.out); have HTC := Lib.hid ht3; have HGC := Lib.hid (HGC.out.trans hg3); clear ht3 hg3)
              refine stage_post (sameNone _ _) ?_
              change wpStage _ _ _ _ _ _ _ _ (3 + 1) _ _ _
              refine stage_reads [6] 3 _ _ (by kernel_rfl) ?_
              change wpQuietIn _ _ _ _ (fun W => ∃ x : SameAt wr (fun _ => False), W = x.W) _ _ _
              simp only [pick_cons, pick_nil, List.getElem?_cons_zero, List.getElem?_cons_succ, Option.elim_some]
              repeat (gi_big_quiet_step (fail))
              refine wpQuietIn_nil ?_
            case' g085 =>
              refine stage_one 3 (by kernel_rfl) rfl ?_
            case' g085 =>
              have ynm := names_cell HN.out HNM.out
              gi_wp2
              clear ynm
              refine stage_post (sameNone _ _) ?_
              change wpStage _ _ _ _ _ _ _ _ (1 + 1) _ _ _
              refine stage_reads [7] 1 _ _ (by kernel_rfl) ?_
              change wpQuietIn _ _ _ _ (fun W => ∃ x : SameAt wr (fun _ => False), W = x.W) _ _ _
              simp only [pick_cons, pick_nil, List.getElem?_cons_zero, List.getElem?_cons_succ, Option.elim_some]
              repeat (gi_big_quiet_step (fail))
              refine wpQuietIn_nil ?_
            case' g085 =>
              refine stage_one 9 (by kernel_rfl) rfl ?_
              obtain ⟨b0, bf0⟩ := cellrow HBX.out 0 (by simp)
              obtain ⟨b1, bf1⟩ := cellrow HBX.out 1 (by simp)
              obtain ⟨b2, bf2⟩ := cellrow HBX.out 2 (by simp)
              obtain ⟨b3, bf3⟩ := cellrow HBX.out 3 (by simp)
              have hpbl := (Array.getElem?_eq_some_iff.1 HBX.out).1
              gi_wp2
              refine stage_last rfl ?_
              refine stage_done (by kernel_rfl) ?_
              have HB5 := Lib.hid (box_filled HBX.out (.string nm) (.bool false) (.int .i64 (1 + z)) (.slice none 0 0))
              have HT5 := Lib.hid (TkrAt.set4 (u0 := .string nm) (u1 := .bool false) (u2 := .int .i64 (1 + z)) (u3 := .slice none 0 0) HTC.out (show p < pb by (have := HPB.out; omega)))
              have HG5 := Lib.hid (set4_new (u0 := .string nm) (u1 := .bool false) (u2 := .int .i64 (1 + z)) (u3 := .slice none 0 0) HGC.out HPB.out)
              clear b0 b1 b2 b3 bf0 bf1 bf2 bf3 HBX HTC HGC hpbl
              generalize (((Wd085.setCell ⟨pb, 0, none⟩ (.string nm)).setCell ⟨pb, 1, none⟩ (.bool false)).setCell ⟨pb, 2, none⟩ (.int .i64 (1 + z))).setCell ⟨pb, 3, none⟩ (.slice none 0 0) = W9 at *
            case' g8 =>
              gi_wp2
              refine stage_post (sameNone _ _) ?_
              change wpStage _ _ _ _ _ _ _ _ _ _ _ (Wd.alloc (.cells #[.string ByteArray.empty, .bool false, .int .i64 0, .slice none 0 0] 28))
              have HBX := Lib.hid (heap_alloc_new Wd (.cells #[.string ByteArray.empty, .bool false, .int .i64 0, .slice none 0 0] 28))
              have HPB := Lib.hid (show wr.heap.size ≤ Wd.heap.size from HGC.out.size)
              have HTC := Lib.hid (HTC.out.later (below_alloc Wd (.cells #[.string ByteArray.empty, .bool false, .int .i64 0, .slice none 0 0] 28)))
              have HGC := Lib.hid (HGC.out.trans (grown_of_below (below_alloc Wd (.cells #[.string ByteArray.empty, .bool false, .int .i64 0, .slice none 0 0] 28)) (some p)))
              generalize Wd.heap.size = pb at *
              generalize Wd.alloc (.cells #[.string ByteArray.empty, .bool false, .int .i64 0, .slice none 0 0] 28) = Wd8 at *
            case' g8 =>
              refine stage_one 0 (by kernel_rfl) rfl ?_
            case' g8 =>
              gi_wp2_with (refine ⟨trivial, ?_⟩; gi_at_call 75; refine (callsIn_wide.2 (names0_ex _)).mono ?_; rintro e Wd80 ⟨nb, rfl, hnbs, hnb, hn0⟩; have HNB := Lib.hid (show p < nb by (have := HGC.out.size; omega)); have HTC := Lib.hid (HTC.out.later hn0); have HGC := Lib.hid (HGC.out.trans (grown_of_below hn0 (some p))); have HBX := Lib.hid ((hn0.block pb (Array.getElem?_eq_some_iff.1 HBX.out).1).trans HBX.out); have HN := Lib.hid hnb; clear hnb hn0 hnbs)
              refine stage_post (sameNone _ _) ?_
              change wpStage _ _ _ _ _ _ _ _ (5 + 1) _ _ _
              refine stage_reads [2] 5 _ _ (by kernel_rfl) ?_
              change wpQuietIn _ _ _ _ (fun W => ∃ x : SameAt wr (fun _ => False), W = x.W) _ _ _
              simp only [pick_cons, pick_nil, List.getElem?_cons_zero, List.getElem?_cons_succ, Option.elim_some]
              repeat (gi_big_quiet_step (fail))
              refine wpQuietIn_nil ?_
            case' g8 =>
              refine stage_two 3 5 (by kernel_rfl) rfl rfl ?g83 ?g85
            case' g83 =>
              have ynm := names_cell HN.out HNM.out
              gi_wp2
              clear ynm
              refine stage_post (sameNone _ _) ?_
            case' g83 =>
              refine stage_one 5 (by kernel_rfl) rfl ?_
            case' g83 =>
              gi_wp2_with (refine ⟨trivial, ?_⟩; gi_at_call 54; refine (callsIn_wide.2 (take_any p v l _ 4 _ HTC.out (by omega) (by omega))).mono ?_; rintro e Wd805 ⟨rfl, ht3, hg3⟩; rw [HZ.out]; have HN := Lib.hid ((hg3.block nb (Array.getElem?_eq_some_iff.1 HN.out).1 (by have := HNB.out; simp; omega)).trans HN.out); have HBX := Lib.hid ((hg3.block pb (Array.getElem?_eq_some_iff.1 HBX.out).1 (by have := HPB.out; simp; omega)).trans HBX.out); have HTC := Lib.hid ht3; have HGC := Lib.hid (HGC.out.trans hg3); clear ht3 hg3)
              refine stage_post (sameNone _ _) ?_
              change wpStage _ _ _ _ _ _ _ _ (1 + 2) _ _ _
              refine stage_reads [6, 7] 1 _ _ (by kernel_rfl) ?_
              change wpQuietIn _ _ _ _ (fun W => ∃ x : SameAt wr (fun _ => False), W = x.W) _ _ _
              simp only [pick_cons, pick_nil, List.getElem?_cons_zero, List.getElem?_cons_succ, Option.elim_some]
              repeat (gi_big_quiet_step (fail))
              refine wpQuietIn_nil ?_
            case' g83 =>
              refine stage_one 9 (by kernel_rfl) rfl ?_
              obtain ⟨b0, bf0⟩ := cellrow HBX.out 0 (by simp)
              obtain ⟨b1, bf1⟩ := cellrow HBX.out 1 (by simp)
              obtain ⟨b2, bf2⟩ := cellrow HBX.out 2 (by simp)
              obtain ⟨b3, bf3⟩ := cellrow HBX.out 3 (by simp)
              have hpbl := (Array.getElem?_eq_some_iff.1 HBX.out).1
              gi_wp2
              refine stage_last rfl ?_
              refine stage_done (by kernel_rfl) ?_
              have HB5 := Lib.hid (box_filled HBX.out (.string nm) (.bool false) (.int .i64 (1 + z)) (.slice none 0 0))
              have HT5 := Lib.hid (TkrAt.set4 (u0 := .string nm) (u1 := .bool false) (u2 := .int .i64 (1 + z)) (u3 := .slice none 0 0) HTC.out (show p < pb by (have := HPB.out; omega)))
              have HG5 := Lib.hid (set4_new (u0 := .string nm) (u1 := .bool false) (u2 := .int .i64 (1 + z)) (u3 := .slice none 0 0) HGC.out HPB.out)
              clear b0 b1 b2 b3 bf0 bf1 bf2 bf3 HBX HTC HGC hpbl
              generalize (((Wd805.setCell ⟨pb, 0, none⟩ (.string nm)).setCell ⟨pb, 1, none⟩ (.bool false)).setCell ⟨pb, 2, none⟩ (.int .i64 (1 + z))).setCell ⟨pb, 3, none⟩ (.slice none 0 0) = W9 at *
            case' g85 =>
              gi_wp2_with (refine ⟨trivial, ?_⟩; gi_at_call 54; refine (callsIn_wide.2 (take_any p v l _ 4 _ HTC.out (by omega) (by omega))).mono ?_; rintro e Wd805 ⟨rfl, ht3, hg3⟩; rw [HZ.out]; have HN := Lib.hid ((hg3.block nb (Array.getElem?_eq_some_iff.1 HN.out).1 (by have := HNB.out; simp; omega)).trans HN.out); have HBX := Lib.hid ((hg3.block pb (Array.getElem?_eq_some_iff.1 HBX.out).1 (by have := HPB.out; simp; omega)).trans HBX.out); have HTC := Lib.hid ht3; have HGC := Lib.hid (HGC.out.trans hg3); clear ht3 hg3)
              refine stage_post (sameNone _ _) ?_
              change wpStage _ _ _ _ _ _ _ _ (3 + 1) _ _ _
              refine stage_reads [6] 3 _ _ (by kernel_rfl) ?_
              change wpQuietIn _ _ _ _ (fun W => ∃ x : SameAt wr (fun _ => False), W = x.W) _ _ _
              simp only [pick_cons, pick_nil, List.getElem?_cons_zero, List.getElem?_cons_succ, Option.elim_some]
              repeat (gi_big_quiet_step (fail))
              refine wpQuietIn_nil ?_
            case' g85 =>
              refine stage_one 3 (by kernel_rfl) rfl ?_
            case' g85 =>
              have ynm := names_cell HN.out HNM.out
              gi_wp2
              clear ynm
              refine stage_post (sameNone _ _) ?_
              change wpStage _ _ _ _ _ _ _ _ (1 + 1) _ _ _
              refine stage_reads [7] 1 _ _ (by kernel_rfl) ?_
              change wpQuietIn _ _ _ _ (fun W => ∃ x : SameAt wr (fun _ => False), W = x.W) _ _ _
              simp only [pick_cons, pick_nil, List.getElem?_cons_zero, List.getElem?_cons_succ, Option.elim_some]
              repeat (gi_big_quiet_step (fail))
              refine wpQuietIn_nil ?_
            case' g85 =>
              refine stage_one 9 (by kernel_rfl) rfl ?_
              obtain ⟨b0, bf0⟩ := cellrow HBX.out 0 (by simp)
              obtain ⟨b1, bf1⟩ := cellrow HBX.out 1 (by simp)
              obtain ⟨b2, bf2⟩ := cellrow HBX.out 2 (by simp)
              obtain ⟨b3, bf3⟩ := cellrow HBX.out 3 (by simp)
              have hpbl := (Array.getElem?_eq_some_iff.1 HBX.out).1
              gi_wp2
              refine stage_last rfl ?_
              refine stage_done (by kernel_rfl) ?_
              have HB5 := Lib.hid (box_filled HBX.out (.string nm) (.bool false) (.int .i64 (1 + z)) (.slice none 0 0))
              have HT5 := Lib.hid (TkrAt.set4 (u0 := .string nm) (u1 := .bool false) (u2 := .int .i64 (1 + z)) (u3 := .slice none 0 0) HTC.out (show p < pb by (have := HPB.out; omega)))
              have HG5 := Lib.hid (set4_new (u0 := .string nm) (u1 := .bool false) (u2 := .int .i64 (1 + z)) (u3 := .slice none 0 0) HGC.out HPB.out)
              clear b0 b1 b2 b3 bf0 bf1 bf2 bf3 HBX HTC HGC hpbl
              generalize (((Wd805.setCell ⟨pb, 0, none⟩ (.string nm)).setCell ⟨pb, 1, none⟩ (.bool false)).setCell ⟨pb, 2, none⟩ (.int .i64 (1 + z))).setCell ⟨pb, 3, none⟩ (.slice none 0 0) = W9 at *
            all_goals
              gi_wp2
              gi_meet
              case rel => exact ⟨_, rfl, HPB.out, HB5.out, HT5.out, HG5.out⟩
          case rest =>
            obtain ⟨pb, rfl, hpb, hbx, htk, hgr⟩ := hcut
            have HPB := Lib.hid hpb
            have HTC := Lib.hid htk
            have HGC := Lib.hid hgr
            have HBX := Lib.hid hbx
            have hpbl := (Array.getElem?_eq_some_iff.1 hbx).1
            clear hpb htk hgr hbx
            have htv3 := tkV_lt l (tkA l A 4) (n := 3) (by omega)
            gi_upto_region 12 with fail
            gi_cut [46] from 78 (fun c wc => c = .bool (sPub l i A) ∧ SMet wr p v l (sA2 l i A) #[.string nm, .bool false, .int .i64 (1 + z), .slice none 0 0] (.pointer (some ⟨pb, 0, none⟩)) wc)
            case first =>
              by_cases h0 : 0 < i
              · have hg0 : (0 : Int) < (i : Int) := by omega
                have HSP := Lib.hid (show sPub l i A = (tkV l (tkA l A 4) 3 == 1) ∧ sA2 l i A = tkA l (tkA l A 4) 3 from ⟨by unfold sPub; simp [h0], by unfold sA2; rw [if_pos h0]⟩)
                gi_wp2_with (refine ⟨trivial, ?_⟩; gi_at_call 54; refine (callsIn_wide.2 (take_any p v l _ 3 _ HTC.out (by omega) (by omega))).mono ?_; rintro e W10 ⟨rfl, ht3, hg3⟩; have HTD := Lib.hid ht3; have HGD := Lib.hid (HGC.out.trans hg3); have HBD := Lib.hid ((hg3.block pb hpbl (by have := HPB.out; simp; omega)).trans HBX.out); clear ht3 hg3)
                gi_meet
                case rel => exact ⟨by rw [HSP.out.1], pb, rfl, HPB.out, HBD.out, by rw [HSP.out.2]; exact HTD.out, HGD.out⟩
              · obtain rfl : i = 0 := by omega
                have HSP := Lib.hid (show sPub l 0 A = false ∧ sA2 l 0 A = tkA l A 4 from ⟨rfl, rfl⟩)
                gi_wp2_with (refine ⟨trivial, ?_⟩)
                gi_meet
                case rel => exact ⟨by rw [HSP.out.1], pb, rfl, HPB.out, HBX.out, by rw [HSP.out.2]; exact HTC.out, HGC.out⟩
            case rest =>
              obtain ⟨rfl, pb2, e5, hpb, hbx, htk, hgr⟩ := hcut
              obtain rfl : pb = pb2 := by simp only [Value.pointer.injEq, Option.some.injEq, Addr.mk.injEq, and_true] at e5; exact e5
              clear HPB HTC HGC HBX hpbl e5
              have HPB := Lib.hid hpb
              have HTC := Lib.hid htk
              have HGC := Lib.hid hgr
              have HBX := Lib.hid hbx
              obtain ⟨b1, bf1⟩ := cellrow hbx 1 (by simp)
              obtain ⟨b2, bf2⟩ := cellrow hbx 2 (by simp)
              have hpbl := (Array.getElem?_eq_some_iff.1 hbx).1
              clear hpb htk hgr hbx
              have HSP := Lib.hid (show sPub l i A = sPub l i A from rfl)
              generalize hsp : sPub l i A = sp at *
              have HSPE := Lib.hid hsp
              clear hsp HSP
              gi_upto_if 46 with fail
              gi_cut [] from 78 (fun wc => SMet wr p v l (sA2 l i A) #[.string nm, .bool sp, .int .i64 (if sp then 0 else 1 + z), .slice none 0 0] (.pointer (some ⟨pb, 0, none⟩)) wc)
              case first =>
                cases sp
                · gi_wp2
                  gi_meet
                  case rel => exact ⟨pb, rfl, HPB.out, HBX.out, HTC.out, HGC.out⟩
                · gi_wp2
                  gi_meet
                  case rel =>
                    refine ⟨pb, rfl, HPB.out, ?_, (HTC.out.set (by have := HPB.out; omega)).set (by have := HPB.out; omega), grown_setNew (grown_setNew HGC.out HPB.out) HPB.out⟩
                    have := heap_setCell_same _ _ 2 _ _ (.int .i64 0) (heap_setCell_same _ _ 1 _ _ (.bool true) HBX.out)
                    simpa using this
              case rest =>
                obtain ⟨pb2, e5, hpb, hbx, htk, hgr⟩ := hcut
                obtain rfl : pb = pb2 := by simp only [Value.pointer.injEq, Option.some.injEq, Addr.mk.injEq, and_true] at e5; exact e5
                clear HPB HTC HGC HBX hpbl e5 b1 bf1 b2 bf2
                obtain ⟨my, hmy⟩ : ∃ my : Int, (if sp = true then (0 : Int) else 1 + z) = my := ⟨_, rfl⟩
                rw [hmy] at hbx
                have HMY := Lib.hid hmy
                have HPB := Lib.hid hpb
                have HTC := Lib.hid htk
                have HGC := Lib.hid hgr
                have HBX := Lib.hid hbx
                have hf := tkV_lt l (sA2 l i A) (n := 5) (by omega)
                obtain ⟨ft, hft⟩ : ∃ f : Int, sFirst l i A = f := ⟨_, rfl⟩
                have HFT := Lib.hid (show tkV l (sA2 l i A) 5 = ft from hft)
                have HFS := Lib.hid hft
                rw [HFT.out] at hf
                have HA3 := Lib.hid (show tkA l (sA2 l i A) 5 = sA3 l i A from rfl)
                clear hft hmy hpb htk hgr hbx
                gi_wp2_with (refine ⟨trivial, ?_⟩; gi_at_call 54; refine (callsIn_wide.2 (take_any p v l _ 5 _ HTC.out (by omega) (by omega))).mono ?_; rintro e W14 ⟨rfl, ht3, hg3⟩; rw [HFT.out]; rw [HA3.out] at ht3; have HTD := Lib.hid ht3; have HGD := Lib.hid (HGC.out.trans hg3); have HBD := Lib.hid ((hg3.block pb (Array.getElem?_eq_some_iff.1 HBX.out).1 (by have := HPB.out; simp; omega)).trans HBX.out); clear ht3 hg3)
                clear HTC HGC HBX
                generalize ha3 : sA3 l i A = a3 at *
                have HA3E := Lib.hid ha3
                clear ha3 HA3
                obtain ⟨wo, rfl⟩ : ∃ wo, wo = wr := ⟨_, rfl⟩
                gi_loopw [10] (fun j wq => ∃ k : Nat, k ≤ 5 ∧ j = .int .i64 k ∧ SIn wo p v l pb (fun u => #[.string nm, .bool sp, .int .i64 my, u]) (inC all l ft a3 k) (inA l ft a3 k) wq) (fun j _ => 5 - (intOf j).toNat)
                case atStart => exact ⟨0, by omega, rfl, ⟨_, HBD.out, OSeq.nil _ _ _, HTD.out, HGD.out⟩⟩
                case round =>
                  obtain ⟨k, hk, rfl, hin⟩ := hrel
                  have HIN := Lib.hid hin
                  clear hin
                  have hk0 : (0 : Int) ≤ (k : Int) := by omega
                  by_cases hlt2 : k < 5
                  · have hk1 : (k : Int) < 5 := by omega
                    have HLT2 := Lib.hid hlt2
                    clear hlt2
                    have HCC := Lib.hid (show inC all l ft a3 (k + 1) = inC all l ft a3 k ++ (if inB l ft a3 k = true then [all[k]?.getD default] else []) from rfl)
                    gi_upto_region 18 with fail
                    gi_cut [62] from 78 (fun c wc => c = .bool (inB l ft a3 k) ∧ SIn wo p v l pb (fun u => #[.string nm, .bool sp, .int .i64 my, u]) (inC all l ft a3 k) (inA l ft a3 (k + 1)) wc)
                    case first =>
                      obtain ⟨vc, hbc, hgc⟩ := HIN.out.bx
                      have HTC := Lib.hid hgc.tk
                      clear hbc hgc
                      by_cases he : (k : Int) = ft
                      · have HBA := Lib.hid (show inB l ft a3 k = true ∧ inA l ft a3 (k + 1) = inA l ft a3 k from ⟨by unfold inB; simp [he], by show (if (k : Int) = ft then _ else _) = _; rw [if_pos he]⟩)
                        subst he
                        gi_wp2_with (refine ⟨trivial, ?_⟩)
                        gi_meet
                        case rel => exact ⟨by rw [HBA.out.1], by rw [HBA.out.2]; exact HIN.out⟩
                      · have HBA := Lib.hid (show inB l ft a3 k = (tkV l (inA l ft a3 k) 2 == 1) ∧ inA l ft a3 (k + 1) = tkA l (inA l ft a3 k) 2 from ⟨by unfold inB; simp [he], by show (if (k : Int) = ft then _ else _) = _; rw [if_neg he]⟩)
                        have hed : decide ((k : Int) = ft) = false := by simp [he]
                        gi_wp2_with (refine ⟨trivial, ?_⟩; gi_at_call 54; refine (callsIn_wide.2 (take_any p v l _ 2 _ HTC.out (by omega) (by omega))).mono ?_; rintro e W18 ⟨rfl, ht3, hg3⟩; have HSI := Lib.hid (HIN.out.take HPB.out hpr2 hg3 ht3); clear ht3 hg3)
                        gi_meet
                        case rel => exact ⟨by rw [HBA.out.1, beq_false_of_ne he]; simp, by rw [HBA.out.2]; exact HSI.out⟩
                    case rest =>
                      obtain ⟨rfl, hin⟩ := hcut
                      clear HIN
                      have HIN := Lib.hid hin
                      clear hin
                      obtain ⟨bb, hbb⟩ : ∃ bb : Bool, inB l ft a3 k = bb := ⟨_, rfl⟩
                      rw [hbb] at HCC ⊢
                      clear hbb
                      cases bb
                      · have HCC2 := Lib.hid (show inC all l ft a3 (k + 1) = inC all l ft a3 k by rw [HCC.out]; simp)
                        gi_wp2
                        go_roundw
                        case rel => exact ⟨k + 1, HLT2.out, by go_num, by rw [HCC2.out]; exact HIN.out⟩
                        case measure => have := HLT2.out; simp [intOf]; omega
                      · have HCC2 := Lib.hid (show inC all l ft a3 (k + 1) = inC all l ft a3 k ++ [all[k]?.getD default] by rw [HCC.out]; simp)
                        have hal : all.length = 5 := by rw [← HALLE.out]; simp [allC]
                        obtain ⟨vc, hbc, hgc⟩ := HIN.out.bx
                        obtain ⟨b, o, uw, eAu, hcu, hcm, q0, q1, q2, q3, hwr, hfit⟩ := col_at (HOA.out wc (HI2.out.g.trans hgc.g)) hal HLT2.out
                        obtain ⟨b', o', _, eAu', _, _, q0', _⟩ := col_at HALS.out hal HLT2.out
                        have hbb : b < w4.heap.size := by
                          rw [eAu] at eAu'
                          simp only [Option.some.injEq, Addr.mk.injEq, and_true] at eAu'
                          rw [eAu'.1]
                          exact cell_lt q0'
                        clear q0' eAu'
                        subst eAu
                        have hxw : (all[k]?.getD default).words.length ≤ 5 := by
                          have hm : all[k]?.getD default ∈ allC l 5 := by
                            rw [HALLE.out]
                            have hkl : k < all.length := by have := HLT2.out; omega
                            rw [show all[k]?.getD default = all[k] by simp [hkl]]
                            exact List.getElem_mem hkl
                          exact allC_words l 5 _ hm
                        generalize all[k]?.getD default = x at *
                        obtain ⟨Aw, cw, rfl, _, _⟩ := hwr.slice
                        obtain ⟨Ac, cc, rfl, _, _⟩ := hgc.seq.slice
                        have hnl := inC_len all l ft a3 k
                        have HXS := Lib.hid (show (inC all l ft a3 k).length = (inC all l ft a3 k).length from rfl)
                        generalize hxs : inC all l ft a3 k = xs at *
                        generalize hn0 : xs.length = n0 at *
                        have HXL := Lib.hid hn0
                        clear HXS hn0
                        have HXS := Lib.hid hxs
                        have hsw := HI2.out.g.size
                        have hsc := hgc.g.size
                        have hbw : b < wc.heap.size := by omega
                        have hpbw := (Array.getElem?_eq_some_iff.1 hbc).1
                        obtain ⟨y3, f3⟩ := cellrow hbc 3 (by simp)
                        have xB : ∀ X : SameAt wc (fun k => k = pb ∨ k = b), X.W.cell? ⟨pb, 3, none⟩ = some (.slice Ac n0 cc) := fun X => X.cell (Or.inl rfl) y3
                        have x0 : ∀ X : SameAt wc (fun k => k = pb ∨ k = b), X.W.cell? ⟨b, o + k * 4, none⟩ = some (.string x.name) := fun X => X.cell (Or.inr rfl) q0
                        have x1 : ∀ X : SameAt wc (fun k => k = pb ∨ k = b), X.W.cell? ⟨b, o + k * 4 + 1, none⟩ = some (.int .i64 x.lo) := fun X => X.cell (Or.inr rfl) q1
                        have x2 : ∀ X : SameAt wc (fun k => k = pb ∨ k = b), X.W.cell? ⟨b, o + k * 4 + 2, none⟩ = some (.int .i64 x.hi) := fun X => X.cell (Or.inr rfl) q2
                        have x3 : ∀ X : SameAt wc (fun k => k = pb ∨ k = b), X.W.cell? ⟨b, o + k * 4 + 3, none⟩ = some (.slice Aw x.words.length cw) := fun X => X.cell (Or.inr rfl) q3
                        have HBC := Lib.hid hbc
                        have HGI := Lib.hid (show GInv colK wo p v l (.slice Ac n0 cc) xs (inA l ft a3 (k + 1)) wc.drew from hgc.later ⟨rfl, rfl, rfl, Nat.le_refl _, fun _ _ => rfl⟩)
                        have HCV := Lib.hid (show ColVal Any wc.drew (.agg #[.string x.name, .int .i64 x.lo, .int .i64 x.hi, .slice Aw x.words.length cw]) x from ⟨_, rfl, hwr.below ⟨rfl, rfl, rfl, Nat.le_refl _, fun _ _ => rfl⟩, hfit⟩)
                        have HFI := Lib.hid hfit
                        have hmx2 : Tryd.prog.follows .mixedOrders = true := by kernel_rfl
                        clear hbc hgc q0 q1 q2 q3 hwr hfit y3 f3 HIN hxs
                        gi_wp2
                        refine wpIn_stage (IsSame wc (fun k => k = pb ∨ k = b)) [0, 1, 2, 3, 4, 5] [9, 10] hmx2 (by kernel_rfl) (isSame_of fun _ _ => rfl) ?_
                        change wpStage _ _ _ _ _ _ _ _ (5 + 6) _ _ _
                        refine stage_reads [0, 1, 2, 3, 4, 5] 5 _ _ (by kernel_rfl) ?_
                        change wpQuietIn _ _ _ _ (fun W => ∃ x : SameAt wc (fun k => k = pb ∨ k = b), W = x.W) _ _ _
                        simp only [pick_cons, pick_nil, List.getElem?_cons_zero, List.getElem?_cons_succ, Option.elim_some]
                        repeat (gi_big_quiet_step (fail))
                        refine wpQuietIn_nil ?_
                        clear xB x0 x1 x2 x3
                        refine stage_one 6 (by kernel_rfl) rfl ?_
                        gi_wp2_with (refine ⟨trivial, ?_⟩; gi_at_call 76; go_loud (refine (callsIn_wide.2 (copyCol_any Any _ x _ HCV.out (by omega))).mono ?_; rintro e w5 ⟨u5, rfl, ho5, hb5⟩; obtain ⟨A5, c5, rfl, _, _⟩ := ho5.slice; have hg5 := HGI.out.later hb5; obtain ⟨us, hus⟩ := hg5.us (.cells (colCells x (.slice A5 x.words.length c5)) 25); rw [HXL.out] at hus; have HUS := Lib.hid hus; have HG5 := Lib.hid hg5; have HB5 := Lib.hid (show Below wc.heap.size wc w5 from ⟨hb5.os, hb5.tape, hb5.output, hb5.size, hb5.block⟩); have HKX := Lib.hid (show colK.is (Own wo.heap.size w5) w5 [.string x.name, .int .i64 x.lo, .int .i64 x.hi, .slice A5 x.words.length c5] x from ⟨_, rfl, (ho5.base_le (by simp; omega)).row, HFI.out⟩); have HNW := Lib.hid (four_new w5 (.string x.name) (.int .i64 x.lo) (.int .i64 x.hi) (.slice A5 x.words.length c5) 25); have HBC5 := Lib.hid ((hb5.block pb hpbw).trans HBC.out); clear ho5 hb5 hg5 hus; simp only [colCells]))
                        refine stage_post (isSame_of fun k hk => HB5.out.block k (show k < wc.heap.size by rcases hk with hk | hk <;> omega)) ?_
                        refine stage_one 7 (by kernel_rfl) rfl ?_
                        have hs5 : wc.heap.size ≤ w5.heap.size := HB5.out.size
                        gi_wp2
                        refine stage_post (isSame_of fun k hk => (heap_alloc_old _ _ (show k < w5.heap.size by rcases hk with hk | hk <;> omega)).trans (HB5.out.block k (show k < wc.heap.size by rcases hk with hk | hk <;> omega))) ?_
                        refine stage_one 8 (by kernel_rfl) rfl ?_
                        gi_wp2_with (gi_at_builtin; go_loud (refine wpListIn_append_own _ rfl _ _ 26 rfl wo.heap.size 25 i25 _ 4 56 Tryd.underlying26 hi25 hz20 hz21 hz22 rfl (by decide) _ _ us rfl HUS.out ⟨w5.heap.size, 0, none⟩ 1 1 [.string x.name, .int .i64 x.lo, .int .i64 x.hi, .slice A5 x.words.length c5] rfl rfl HNW.out (by simp [Value.oneCell']) (by unfold maxLen; omega) (by omega) (by simp; omega) ?_; intro v1 w6 hown1 hgrow1 _; obtain ⟨Av1, cv1, rfl⟩ := slice_of hown1; obtain ⟨hb6, hc6, hf6, hb7, hg7⟩ := GInv.pushBox (f := 3) (mk := fun u => #[.string nm, .bool sp, .int .i64 my, u]) HG5.out hpr2 HPB.out HBC5.out (fun _ _ => rfl) rfl (by decide) (by decide) HKX.out (by rw [HXL.out]; exact HUS.out) (by rw [HXL.out]; exact hown1) hgrow1; have HSM := Lib.hid (box_same (pb := pb) (b := b) (n := w4.heap.size) HB5.out hgrow1 (fun k e => by have := (HUS.out.lt k e).1; omega) hbb (by omega) HBC.out hb6); have HB7 := Lib.hid hb7; have HG7 := Lib.hid hg7; clear hown1 hgrow1 hb6 hb7 hg7))
                        refine stage_post HSM.out ?_
                        refine stage_one 9 (by kernel_rfl) rfl ?_
                        gi_wp2
                        refine stage_last rfl ?_
                        refine stage_one 10 (by kernel_rfl) rfl ?_
                        gi_wp2
                        refine stage_last rfl ?_
                        refine stage_done (by kernel_rfl) ?_
                        gi_wp2
                        go_roundw
                        case rel => exact ⟨k + 1, HLT2.out, by go_num, by rw [HCC2.out]; exact ⟨_, HB7.out, HG7.out⟩⟩
                        case measure => have := HLT2.out; simp [intOf]; omega
                  · obtain rfl : k = 5 := by omega
                    obtain ⟨vc, hbc, hgc⟩ := HIN.out.bx
                    have HSO := Lib.hid (show schOf all l i A = ⟨nm, sp, my, inC all l ft a3 5⟩ ∧ schA l i A = inA l ft a3 5 from ⟨by unfold schOf; rw [HNM.out, HSPE.out, HZ.out, HFS.out, HA3E.out, HMY.out]; rfl, by unfold schA; rw [HFS.out, HA3E.out]⟩)
                    have hmyv : my = 0 ∨ my = 1 + z := by have := HMY.out; cases sp <;> simp at this <;> omega
                    have hmyf : Fit my := by unfold Fit; omega
                    obtain ⟨Ac, cc, rfl, _, _⟩ := hgc.seq.slice
                    have hnl := inC_len all l ft a3 5
                    generalize inC all l ft a3 5 = xs at *
                    have hgw := HI2.out.take (by decide) hgc.g hgc.tk
                    obtain ⟨us, hus⟩ := hgw.us (.cells #[.string nm, .bool sp, .int .i64 my, .slice Ac xs.length cc] 28)
                    rw [HLN2.out] at hus
                    have hsw := HI2.out.g.size
                    have hsc := hgc.g.size
                    have HUS := Lib.hid hus
                    have HGW := Lib.hid hgw
                    have HKX := Lib.hid (show schK.is (Own w4.heap.size wr) wr [.string nm, .bool sp, .int .i64 my, .slice Ac xs.length cc] ⟨nm, sp, my, xs⟩ from ⟨_, rfl, (hgc.seq.base_le hsw).row, hnz, hmyf⟩)
                    have HNW := Lib.hid (four_new wr (.string nm) (.bool sp) (.int .i64 my) (.slice Ac xs.length cc) 28)
                    obtain ⟨c0, _⟩ := cellrow hbc 0 (by simp)
                    obtain ⟨c1, _⟩ := cellrow hbc 1 (by simp)
                    obtain ⟨c2, _⟩ := cellrow hbc 2 (by simp)
                    obtain ⟨c3, _⟩ := cellrow hbc 3 (by simp)
                    clear hbc hgc hgw hus hmyv hmyf HIN
                    gi_wp2_with (gi_at_builtin; go_loud (refine wpListIn_append_own _ rfl _ _ 88 rfl w4.heap.size 28 i28 _ 4 56 Tryd.underlying88 hi28 hz80 hz81 hz82 rfl (by decide) _ _ us rfl HUS.out ⟨wr.heap.size, 0, none⟩ 1 1 [.string nm, .bool sp, .int .i64 my, .slice Ac xs.length cc] rfl rfl HNW.out (by simp [Value.oneCell']) (by unfold maxLen; omega) (by omega) (by simp; omega) ?_; intro v1 w6 hown1 hgrow1 _; obtain ⟨Av1, cv1, rfl⟩ := slice_of hown1; have HST := Lib.hid (HGW.out.push hp4 (by decide) HKX.out (by rw [HLN2.out]; exact HUS.out) (by rw [HLN2.out]; exact hown1) hgrow1); clear hown1 hgrow1))
                    go_roundw
                    case rel => exact ⟨i + 1, HLT.out, by go_num, by rw [HSE.out.1, HSE.out.2, HSO.out.1, HSO.out.2]; exact HST.out⟩
                    case measure => have := HLT.out; simp [intOf]; omega
        · obtain rfl : i = 1 + y := by omega
          gi_wp2
          refine bodyPost_ret (v := .slice Av (1 + y) cv) (by simp [results, Tryd.results53, go_sem]) rfl ⟨_, rfl, ?_, ?_, ?_⟩
          · unfold schemasOf
            rw [HMS.out, HALLE.out, HA0.out]
            exact HI2.out.seq.base_le HW4.out
          · unfold schemasA
            rw [HMS.out, HA0.out]
            exact HI2.out.tk
          · exact HG4.out.trans HI2.out.g
end Go.Proofs.YtlocafmglficnaaDoor
