/- The kit's own Has[int], and what the law's own tables are made of. What the law's own tables (privhousekit.Base) are, as a function of the list of ints: plain. The memory of the walk of privhousekit.Base: a row's box, a table's box, the owners' counts. The memory of the walk of privhousekit.Base, of one row: its box, the schema and the column that are read, the owners' counts. privhousekit.Base: the law's own tables. -/
import Derived.Test.YtlocafmglficnaaDoorTabGenSch
namespace Go.Proofs.YtlocafmglficnaaDoor
open Go.RowKit Go.Maps Go.Sort Go.Shelf

set_option maxRecDepth 100000 in
set_option maxHeartbeats 2000000 in
theorem has_any (C : TypeId → Nat → Prop) (v : Value) (xs : List Int) (y : Int) (w : World) (h : SRow intK C w v xs) :
    Calls Tryd.prog 34 #[v, .int .i64 y] w fun e w' => e = .returned (.bool (decide (y ∈ xs))) ∧ Below w.heap.size w w' := by
  obtain ⟨A, ca, rfl, hl, hm, _, hc⟩ := h.ints
  unfold maxLen at hm
  have HC := Lib.hid hc
  clear hc h
  go_enter Tryd.func34, Tryd.ntmps34
  go_wp2
  go_loopw [5] (fun i wr => ∃ k : Nat, k ≤ xs.length ∧ i = .int .i64 k ∧ (∀ j (h1 : j < xs.length), j < k → xs[j] ≠ y) ∧ Below w.heap.size w wr) (fun i _ => xs.length - (intOf i).toNat)
  case atStart => exact ⟨0, Nat.zero_le _, rfl, fun j _ hj => by omega, Below.refl _ _⟩
  case round =>
    obtain ⟨k, hk, rfl, he, hB⟩ := hrel
    have HE := Lib.hid he
    have HB := Lib.hid hB
    clear he
    by_cases hlt : k < xs.length
    · obtain ⟨b, o, rfl, hcell⟩ := HC.out (by omega)
      have pc := cell_later hB (hcell k hlt)
      have hi0 : (0 : Int) ≤ (k : Int) := by omega
      have hi1 : (k : Int) < (xs.length : Int) := by omega
      have HXY := Lib.hid (show xs[k] ≠ y → ∀ j (h1 : j < xs.length), j < k + 1 → xs[j] ≠ y from fun hne j h1 hj => by
        rcases Nat.lt_or_ge j k with h | h
        · exact HE.out j h1 h
        · obtain rfl : j = k := by omega
          exact hne)
      have HYE := Lib.hid (show xs[k] = y → decide (y ∈ xs) = true from fun e => by subst e; simp)
      clear hcell hB
      generalize xs[k] = x at *
      by_cases hxy : x = y
      · have HV := Lib.hid (HYE.out hxy)
        have hne : (x == y) = true := by simp [hxy]
        clear hxy
        go_wp2
        go_ret
        exact ⟨by rw [HV.out]; rfl, HB.out⟩
      · have HX := Lib.hid (HXY.out hxy)
        have hne : (x == y) = false := by simp [hxy]
        clear hxy
        go_wp2
        go_roundw
        case rel => exact ⟨k + 1, by omega, by go_num, HX.out, HB.out⟩
        case measure => simp [intOf]; omega
    · obtain rfl : k = xs.length := by omega
      have HV := Lib.hid (show decide (y ∈ xs) = false from by
        refine decide_eq_false fun hm => ?_
        obtain ⟨j, hj, e⟩ := List.getElem_of_mem hm
        exact HE.out j hj hj e)
      have hi1 : ¬ ((xs.length : Int) < (xs.length : Int)) := by omega
      go_wp2
      go_ret
      exact ⟨by rw [HV.out]; rfl, HB.out⟩
end Go.Proofs.YtlocafmglficnaaDoor
namespace Go.Proofs.YtlocafmglficnaaDoor
open Go.RowKit Go.Maps Go.Sort Go.Shelf

/-- Bounds of a generated column. -/
def ColS (c : Col) : Prop := -3 ≤ c.lo ∧ c.lo ≤ c.hi ∧ c.hi ≤ 13
theorem colOf_small (l : List Int) (a : Nat) (nm : ByteArray) : ColS (colOf l a nm) := by
  have h1 := tkV_lt l (tkA l a 3) (n := 5) (by omega)
  have h2 := tkV_lt l (tkA l a 3) (n := 9) (by omega)
  have h3 := tkV_lt l (tkA l (tkA l a 3) 9) (n := 8) (by omega)
  unfold colOf ColS
  split
  · dsimp only; omega
  · dsimp only; omega
theorem allC_small (l : List Int) (n : Nat) : ∀ c ∈ allC l n, ColS c := by
  intro c hc
  obtain ⟨i, _, rfl⟩ := List.mem_map.1 hc
  exact colOf_small _ _ _
theorem inC_mem (all : List Col) (l : List Int) (first : Int) (a : Nat) : ∀ k, k ≤ all.length → ∀ c ∈ inC all l first a k, c ∈ all
  | 0, _, c, h => by cases h
  | k + 1, hk, c, h => by
    unfold inC at h
    rcases List.mem_append.1 h with h | h
    · exact inC_mem all l first a k (by omega) c h
    · split at h
      · simp only [List.mem_singleton] at h
        rw [h, show all[k]?.getD default = all[k] by simp [show k < all.length by omega]]
        exact List.getElem_mem _
      · cases h
theorem inC_some (all : List Col) (l : List Int) (first : Int) (a : Nat) (h0 : 0 ≤ first) : ∀ k : Nat, first < (k : Int) → 0 < (inC all l first a k).length
  | 0, h => by omega
  | k + 1, h => by
    unfold inC
    rw [List.length_append]
    by_cases he : (k : Int) = first
    · have : inB l first a k = true := by unfold inB; simp [he]
      rw [if_pos this]
      simp
    · have := inC_some all l first a h0 k (by omega)
      omega
/-- A generated schema: its columns are small, there is one at least. -/
theorem schOf_cols (l : List Int) (i a : Nat) : (∀ c ∈ (schOf (allC l 5) l i a).cols, ColS c ∧ c.words.length ≤ 5) ∧ 0 < (schOf (allC l 5) l i a).cols.length ∧ (schOf (allC l 5) l i a).cols.length ≤ 5 := by
  have hf := tkV_lt l (sA2 l i a) (n := 5) (by omega)
  refine ⟨fun c hc => ?_, inC_some _ _ _ _ hf.1 5 hf.2, inC_len _ _ _ _ 5⟩
  have hm := inC_mem (allC l 5) l _ _ 5 (by simp [allC]) c hc
  exact ⟨allC_small l 5 c hm, allC_words l 5 c hm⟩
theorem schemasOf_mem (l : List Int) {S : Sch} (h : S ∈ schemasOf l) : ∃ i a, S = schOf (allC l 5) l i a ∧ i < manyS l := by
  obtain ⟨i, hi, rfl⟩ := List.mem_map.1 h
  exact ⟨i, _, rfl, List.mem_range.1 hi⟩
theorem schemasOf_len (l : List Int) : (schemasOf l).length = manyS l ∧ 1 ≤ manyS l ∧ manyS l ≤ 3 := by
  have hf := tkV_lt l (allA l 5) (n := 3) (by omega)
  exact ⟨by simp [schemasOf, soC], by unfold manyS; omega, by unfold manyS; omega⟩

/-- A row's values behind k columns, and the Taker's place. -/
def vsA (l : List Int) (cs : List Col) (a : Nat) : Nat → Nat
  | 0 => a
  | k + 1 => tkA l (vsA l cs a k) ((cs[k]?.getD default).hi - (cs[k]?.getD default).lo + 1)
def vsC (l : List Int) (cs : List Col) (a : Nat) : Nat → List Int
  | 0 => []
  | k + 1 => vsC l cs a k ++ [(cs[k]?.getD default).lo + tkV l (vsA l cs a k) ((cs[k]?.getD default).hi - (cs[k]?.getD default).lo + 1)]
theorem vsC_len (l : List Int) (cs : List Col) (a : Nat) : ∀ k, (vsC l cs a k).length = k
  | 0 => rfl
  | k + 1 => by unfold vsC; rw [List.length_append, vsC_len l cs a k]; rfl
def rOwner (l : List Int) (S : Sch) (a : Nat) : Int := if S.pub then 0 else 1 + tkV l a 5
theorem rOwner_lt (l : List Int) (S : Sch) (a : Nat) : 0 ≤ rOwner l S a ∧ rOwner l S a < 6 := by
  have hf := tkV_lt l a (n := 5) (by omega)
  unfold rOwner
  split <;> omega
def rowOf (l : List Int) (S : Sch) (a : Nat) : RowV := ⟨rOwner l S a, vsC l S.cols (tkA l a 5) S.cols.length⟩
def rowA (l : List Int) (S : Sch) (a : Nat) : Nat := vsA l S.cols (tkA l a 5) S.cols.length
/-- The Taker behind j rows; how many of them are of owner o; the rows that are kept. -/
def rsA (l : List Int) (S : Sch) (a : Nat) : Nat → Nat
  | 0 => a
  | j + 1 => rowA l S (rsA l S a j)
def ownN (l : List Int) (S : Sch) (a : Nat) (o : Int) : Nat → Nat
  | 0 => 0
  | j + 1 => ownN l S a o j + if rOwner l S (rsA l S a j) = o then 1 else 0
theorem ownN_le (l : List Int) (S : Sch) (a : Nat) (o : Int) : ∀ j, ownN l S a o j ≤ j
  | 0 => Nat.le_refl _
  | j + 1 => by
    have := ownN_le l S a o j
    unfold ownN
    split <;> omega
def rsK (l : List Int) (S : Sch) (a j : Nat) : Bool := S.pub || decide ((ownN l S a (rOwner l S (rsA l S a j)) (j + 1) : Int) ≤ S.many)
def rsC (l : List Int) (S : Sch) (a : Nat) : Nat → List RowV
  | 0 => []
  | j + 1 => rsC l S a j ++ if rsK l S a j = true then [rowOf l S (rsA l S a j)] else []
theorem rsC_len (l : List Int) (S : Sch) (a : Nat) : ∀ j, (rsC l S a j).length ≤ j
  | 0 => Nat.le_refl _
  | j + 1 => by
    have := rsC_len l S a j
    unfold rsC
    rw [List.length_append]
    split <;> simp <;> omega
def tblOf (l : List Int) (S : Sch) (a : Nat) : Tbl := ⟨S, rsC l S (tkA l a 13) (tkV l a 13).toNat⟩
def tblA (l : List Int) (S : Sch) (a : Nat) : Nat := rsA l S (tkA l a 13) (tkV l a 13).toNat
def bsA (l : List Int) (ss : List Sch) (a : Nat) : Nat → Nat
  | 0 => a
  | i + 1 => tblA l (ss[i]?.getD ⟨ByteArray.empty, false, 0, []⟩) (bsA l ss a i)
def bsC (l : List Int) (ss : List Sch) (a : Nat) (n : Nat) : List Tbl := (List.range n).map fun i => tblOf l (ss[i]?.getD ⟨ByteArray.empty, false, 0, []⟩) (bsA l ss a i)
theorem bsC_succ (l : List Int) (ss : List Sch) (a n : Nat) : bsC l ss a (n + 1) = bsC l ss a n ++ [tblOf l (ss[n]?.getD ⟨ByteArray.empty, false, 0, []⟩) (bsA l ss a n)] := by
  unfold bsC
  rw [List.range_succ, List.map_append]
  rfl
/-- The law's own tables. -/
def baseOf (l : List Int) : List Tbl := bsC l (schemasOf l) (schemasA l) (schemasOf l).length
theorem rsC_vals (l : List Int) (S : Sch) (a : Nat) : ∀ j, ∀ r ∈ rsC l S a j, r.vals.length = S.cols.length ∧ 0 ≤ r.owner ∧ r.owner < 6
  | 0, r, h => by cases h
  | j + 1, r, h => by
    unfold rsC at h
    rcases List.mem_append.1 h with h | h
    · exact rsC_vals l S a j r h
    · split at h
      · simp only [List.mem_singleton] at h
        subst h
        have := rOwner_lt l S (rsA l S a j)
        exact ⟨vsC_len _ _ _ _, this⟩
      · cases h
theorem rsC_small (l : List Int) (S : Sch) (hS : ∀ c ∈ S.cols, ColS c) (a : Nat) : ∀ k, k ≤ S.cols.length → ∀ x ∈ vsC l S.cols a k, -3 ≤ x ∧ x ≤ 13
  | 0, _, x, h => by cases h
  | k + 1, hk, x, h => by
    unfold vsC at h
    rcases List.mem_append.1 h with h | h
    · exact rsC_small l S hS a k (by omega) x h
    · simp only [List.mem_singleton] at h
      have hg : S.cols[k]?.getD default = S.cols[k] := by simp [show k < S.cols.length by omega]
      have hc := hS _ (List.getElem_mem (show k < S.cols.length by omega))
      rw [hg] at h
      generalize S.cols[k] = c at *
      have := tkV_lt l (vsA l S.cols a k) (n := c.hi - c.lo + 1) (by have := hc.2.1; omega)
      have := hc.1
      have := hc.2.2
      omega
end Go.Proofs.YtlocafmglficnaaDoor
namespace Go.Proofs.YtlocafmglficnaaDoor
open Go.RowKit Go.Maps Go.Sort Go.Shelf

/-- What lies at base or above stays when a block below base turns. -/
theorem OSeq.below {α : Type} {K : Kind α} {base r : Nat} {w w' : World} {v : Value} {xs : List α} (h : OSeq K base w v xs) (hg : w.grownBy w' (some r)) (hr : r < base) : OSeq K base w' v xs := by
  obtain ⟨ls, ho, hl, hx⟩ := h
  refine ⟨ls, ho.kept hg (.inr fun e => ?_), hl, fun j x hj => ?_⟩
  · have := (ho.lt r e).1
    omega
  · obtain ⟨l, e, hi⟩ := hx j x hj
    refine ⟨l, e, K.keep hi fun E b _ _ hO => ?_⟩
    obtain ⟨hb, cur, hc⟩ := hO
    have hs : w'.heap[b]? = w.heap[b]? := hg.block b (Array.getElem?_eq_some_iff.1 hc).1 fun e => by simp only [Option.some.injEq] at e; omega
    exact ⟨⟨hb, cur, hs.trans hc⟩, hs⟩
theorem SRow.schs {C : TypeId → Nat → Prop} {w : World} {v : Value} {ts : List Sch} (h : SRow schK C w v ts) :
    ∃ A c, v = .slice A ts.length c ∧ ts.length ≤ c ∧ c ≤ maxLen ∧ (0 < ts.length → ∃ b o, A = some ⟨b, o, none⟩ ∧ ∀ j (hj : j < ts.length), ∃ u, w.cell? ⟨b, o + j * 4, none⟩ = some (.string ts[j].name) ∧ w.cell? ⟨b, o + j * 4 + 1, none⟩ = some (.bool ts[j].pub) ∧
      w.cell? ⟨b, o + j * 4 + 2, none⟩ = some (.int .i64 ts[j].many) ∧ w.cell? ⟨b, o + j * 4 + 3, none⟩ = some u ∧ SRow colK C w u ts[j].cols ∧ (ts[j].name.size ≤ maxLen ∧ Fit ts[j].many)) := by
  obtain ⟨A, c, e, h1, h2, h3⟩ := h
  refine ⟨A, c, e, h1, h2, fun h0 => ?_⟩
  obtain ⟨b, o, eA, _, _, hx⟩ := h3 h0
  refine ⟨b, o, eA, fun j hj => ?_⟩
  obtain ⟨l, ⟨u, rfl, hcr, hs⟩, hc⟩ := hx j ts[j] (by simp [hj])
  exact ⟨u, by simpa [schK] using hc 0 _ rfl, by simpa [schK] using hc 1 _ rfl, by simpa [schK] using hc 2 _ rfl, by simpa [schK] using hc 3 _ rfl, hcr, hs⟩
/-- A struct's box with a growing list in it: the row and its values. -/
structure GIn {α : Type} (K : Kind α) (tb : TypeId) (wr : World) (p : Nat) (v : Value) (l : List Int) (pb : Nat) (mk : Value → Array Value) (xs : List α) (a : Nat) (wq : World) : Prop where
  bx : ∃ vc, wq.heap[pb]? = some (.cells (mk vc) tb (0, 0)) ∧ GInv K wr p v l vc xs a wq
theorem GIn.take {α : Type} {K : Kind α} {tb : TypeId} {wr wq W' : World} {p pb a a' : Nat} {v : Value} {l : List Int} {mk : Value → Array Value} {xs : List α} (h : GIn K tb wr p v l pb mk xs a wq) (hpb : wr.heap.size ≤ pb) (hpl : p < wr.heap.size) (ht : 87 ∉ K.ty :: K.inner) (hg : wq.grownBy W' (some p)) (ht' : TkrAt W' p v l a') : GIn K tb wr p v l pb mk xs a' W' := by
  obtain ⟨vc, hb, hi⟩ := h.bx
  exact ⟨vc, (hg.block pb (Array.getElem?_eq_some_iff.1 hb).1 (by simp; omega)).trans hb, hi.take ht hg ht'⟩
/-- A table's box pt with its growing rows, the counts in po, behind the round's world wo. -/
structure BIn (wo : World) (n3 p : Nat) (v : Value) (l : List Int) (pt po : Nat) (mk : Value → Array Value) (xs : List RowV) (cs : Array Value) (a : Nat) (wq : World) : Prop where
  bx : ∃ vc, wq.heap[pt]? = some (.cells (mk vc) 31 (0, 0)) ∧ OSeq rowK n3 wq vc xs
  ow : wq.heap[po]? = some (.cells cs 3 (0, 0))
  tk : TkrAt wq p v l a
  g : wo.grownBy wq (some p)
  sz : n3 ≤ wq.heap.size
section
variable {wo wq W : World} {n3 p a a' pt po : Nat} {v : Value} {l : List Int} {mk : Value → Array Value} {xs : List RowV} {cs : Array Value}
theorem BIn.grown (h : BIn wo n3 p v l pt po mk xs cs a wq) (hpt : wo.heap.size ≤ pt) (hpo : wo.heap.size ≤ po) (hpl : p < wo.heap.size) (hg : wq.grownBy W (some p)) (ht : TkrAt W p v l a') : BIn wo n3 p v l pt po mk xs cs a' W := by
  obtain ⟨vc, hb, hs⟩ := h.bx
  exact ⟨⟨vc, (hg.block pt (Array.getElem?_eq_some_iff.1 hb).1 (by simp; omega)).trans hb, hs.grownP hg h.tk.bx (by decide)⟩, (hg.block po (Array.getElem?_eq_some_iff.1 h.ow).1 (by simp; omega)).trans h.ow, ht, h.g.trans hg, Nat.le_trans h.sz hg.size⟩
/-- A count is raised. -/
theorem BIn.count (h : BIn wo n3 p v l pt po mk xs cs a wq) (hpo : wo.heap.size ≤ po) (hpl : p < wo.heap.size) (hp3 : po < n3) (hne : pt ≠ po) (i : Nat) (u : Value) : BIn wo n3 p v l pt po mk xs (cs.setIfInBounds i u) a (wq.setCell ⟨po, i, none⟩ u) := by
  obtain ⟨vc, hb, hs⟩ := h.bx
  exact ⟨⟨vc, (Below.heap_setCell _ _ _ _ (by exact hne)).trans hb, hs.below (grown_set _ _ _ _) hp3⟩, heap_setCell_same _ _ _ _ _ _ h.ow, h.tk.set (by omega), grown_setNew h.g hpo, by have := h.sz; simp [World.setCell]; omega⟩
/-- One row more. -/
theorem BIn.push {W' : World} {us lx : List Value} {x : RowV} {o : Obj} {u v' : Value} {f : Nat} (h : BIn wo n3 p v l pt po mk xs cs a W) (hu : W.heap[pt]? = some (.cells (mk u) 31 (0, 0))) (hs : OSeq rowK n3 W u xs) (hpt : wo.heap.size ≤ pt) (hpl : p < wo.heap.size) (ht3 : pt < n3) (hp3 : po < n3) (hne : pt ≠ po)
    (hm1 : ∀ v v', (mk v).setIfInBounds f v' = mk v') (hm2 : (mk u)[f]? = some u) (hx : rowK.is (Own n3 W) W lx x) (hus : (W.alloc o).ownsRow n3 34 2 u xs.length us)
    (hown : W'.ownsRow n3 34 2 v' (xs.length + 1) (us ++ lx)) (hg : (W.alloc o).grownBy W' u.ownBlock) :
    W'.cell? ⟨pt, f, none⟩ = some u ∧ W'.frozen? ⟨pt, f, none⟩ = false ∧ BIn wo n3 p v l pt po mk (xs ++ [x]) cs a (W'.setCell ⟨pt, f, none⟩ v') := by
  have hlo : ∀ k, k < n3 → k < W.heap.size → W'.heap[k]? = W.heap[k]? := fun k hk hkl => (hg.block k (by simp; omega) fun e => by have := (hus.lt k e.symm).1; omega).trans (heap_alloc_old _ _ hkl)
  have hsz := hg.size
  simp at hsz
  have hsW := h.sz
  have hgs := h.g.size
  have hb1 := (hlo pt ht3 (by omega)).trans hu
  have hnew := hs.push (K := rowK) (by decide) hx hus hown hg
  refine ⟨by simp only [World.cell?, hb1]; simpa using hm2, by simp [World.frozen?, hb1], ⟨v', by rw [heap_setCell_same _ _ _ _ _ _ hb1, hm1], hnew.below (grown_set _ _ _ _) ht3⟩, ?_, ?_, ?_, by simp [World.setCell]; omega⟩
  · exact (Below.heap_setCell _ _ _ _ (by exact fun e => hne e.symm)).trans ((hlo po hp3 (by omega)).trans h.ow)
  · have htk : TkrAt W' p v l a := ⟨(hlo p (by omega) (by omega)).trans h.tk.bx, h.tk.row.keep fun E k _ hk hO => ⟨hO, hlo k (by have : k < p := hO; omega) hk⟩, h.tk.le⟩
    exact htk.set (by omega)
  · refine grown_setNew ?_ hpt
    exact ⟨hg.os.trans h.g.os, hg.tape.trans h.g.tape, hg.output.trans h.g.output, by omega, fun k hk hne' => (hlo k (by omega) (by omega)).trans (h.g.block k hk hne')⟩
end
end Go.Proofs.YtlocafmglficnaaDoor
namespace Go.Proofs.YtlocafmglficnaaDoor
open Go.RowKit Go.Maps Go.Sort Go.Shelf

theorem SRow.blockOf {α : Type} {K : Kind α} {n b o m c : Nat} {W : World} {xs : List α} (h : SRow K (Own n W) W (.slice (some ⟨b, o, none⟩) m c) xs) (h0 : 0 < xs.length) : n ≤ b ∧ b < W.heap.size := by
  obtain ⟨A, c', e, _, _, h3⟩ := h
  simp only [Value.slice.injEq] at e
  obtain ⟨b', o', eA, hC, hb, _⟩ := h3 h0
  rw [← e.1] at eA
  simp only [Option.some.injEq, Addr.mk.injEq, and_true] at eA
  obtain ⟨rfl, rfl⟩ := eA
  exact ⟨hC.1, hb⟩
/-- The schema S at place q of block b. -/
structure SchAt (n : Nat) (W : World) (b q : Nat) (S : Sch) (u : Value) : Prop where
  lt : n ≤ b
  c1 : W.cell? ⟨b, q + 1, none⟩ = some (.bool S.pub)
  c2 : W.cell? ⟨b, q + 2, none⟩ = some (.int .i64 S.many)
  c3 : W.cell? ⟨b, q + 3, none⟩ = some u
  cr : SRow colK (Own n W) W u S.cols
theorem SchAt.grown {n b q p : Nat} {W W' : World} {S : Sch} {u : Value} {cs : Array Value} (h : SchAt n W b q S u) (hg : W.grownBy W' (some p)) (hp : p < n) (hb : W.heap[p]? = some (.cells cs 87 (0, 0))) : SchAt n W' b q S u :=
  have hk : W'.heap[b]? = W.heap[b]? := hg.block b (cell_lt h.c1) fun e => by
    simp only [Option.some.injEq] at e
    have := h.lt
    omega
  ⟨h.lt, (World.cell?_of_block hk).trans h.c1, (World.cell?_of_block hk).trans h.c2, (World.cell?_of_block hk).trans h.c3,
    h.cr.keep fun E b hE _ hO => own_keep hg (fun r hr => by simp only [Option.some.injEq] at hr; subst hr; exact other31 hb (by decide) E hE) hO⟩
/-- A column of a list. -/
theorem col_cells {n : Nat} {w : World} {A : Option Addr} {c : Nat} {cols : List Col} (h : SRow colK (Own n w) w (.slice A cols.length c) cols) {j : Nat} (hj : j < cols.length) :
    ∃ b o A' c', A = some ⟨b, o, none⟩ ∧ w.cell? ⟨b, o + j * 4, none⟩ = some (.string (cols[j]?.getD default).name) ∧ w.cell? ⟨b, o + j * 4 + 1, none⟩ = some (.int .i64 (cols[j]?.getD default).lo) ∧ w.cell? ⟨b, o + j * 4 + 2, none⟩ = some (.int .i64 (cols[j]?.getD default).hi) ∧ w.cell? ⟨b, o + j * 4 + 3, none⟩ = some (.slice A' (cols[j]?.getD default).words.length c') ∧ cols.length ≤ c ∧ c ≤ maxLen := by
  obtain ⟨A', c', e, h1, h2, h3⟩ := h.cols
  simp only [Value.slice.injEq, true_and] at e
  obtain ⟨rfl, rfl⟩ := e
  obtain ⟨b, o, eA, hc⟩ := h3 (by omega)
  obtain ⟨u, q0, q1, q2, q3, hw, _⟩ := hc j hj
  obtain ⟨Au, cu, rfl, _, _⟩ := hw.slice
  have ex : cols[j]?.getD default = cols[j] := by simp [hj]
  rw [ex]
  exact ⟨b, o, Au, cu, eA, q0, q1, q2, q3, h1, h2⟩
/-- The owners' counts behind m rows. -/
def cntV (l : List Int) (S : Sch) (a m : Nat) : Array Value := ((List.range 6).map fun (o : Nat) => Value.int .i64 (ownN l S a (o : Int) m : Int)).toArray
theorem cnt_at (l : List Int) (S : Sch) (a m r : Nat) (hr : r < 6) : (cntV l S a m)[r]? = some (.int .i64 (ownN l S a (r : Int) m : Int)) := by
  simp [cntV, hr]
theorem cnt_succ (l : List Int) (S : Sch) (a m r : Nat) (hr : r < 6) (he : rOwner l S (rsA l S a m) = (r : Int)) : (cntV l S a m).setIfInBounds r (.int .i64 ((ownN l S a (r : Int) m : Int) + 1)) = cntV l S a (m + 1) := by
  apply Array.ext
  · simp [cntV]
  · intro i h1 h2
    have hi : i < 6 := by simpa [cntV] using h2
    rw [Array.getElem_setIfInBounds (by simpa using h1)]
    have e1 : (cntV l S a m)[i]'(by simpa [cntV] using hi) = .int .i64 (ownN l S a (i : Int) m : Int) := by simp [cntV]
    have e2 : (cntV l S a (m + 1))[i]'h2 = .int .i64 (ownN l S a (i : Int) (m + 1) : Int) := by simp [cntV]
    rw [e1, e2]
    have e3 : ownN l S a (i : Int) (m + 1) = ownN l S a (i : Int) m + if rOwner l S (rsA l S a m) = (i : Int) then 1 else 0 := rfl
    rw [e3, he]
    by_cases hri : r = i
    · subst hri
      simp
    · rw [if_neg hri, if_neg (by omega)]
      simp
theorem cnt_zero (l : List Int) (S : Sch) (a : Nat) : (#[.int .i64 0, .int .i64 0, .int .i64 0, .int .i64 0, .int .i64 0, .int .i64 0] : Array Value) = cntV l S a 0 := rfl
/-- A row's box, the Taker behind it. -/
structure RBox (wq : World) (p : Nat) (v : Value) (l : List Int) (a pb : Nat) (cs : Array Value) (W : World) : Prop where
  ge : wq.heap.size ≤ pb
  bx : W.heap[pb]? = some (.cells cs 34 (0, 0))
  tk : TkrAt W p v l a
  g : wq.grownBy W (some p)
theorem RBox.new {wq W : World} {p a : Nat} {v : Value} {l : List Int} (cs : Array Value) (hg : wq.grownBy W (some p)) (ht : TkrAt W p v l a) : RBox wq p v l a W.heap.size cs (W.alloc (.cells cs 34)) :=
  ⟨hg.size, heap_alloc_new _ _, ht.later (below_alloc _ _), hg.trans (grown_of_below (below_alloc _ _) _)⟩
theorem RBox.set {wq W : World} {p a pb : Nat} {v : Value} {l : List Int} {cs : Array Value} (h : RBox wq p v l a pb cs W) (hp : p < wq.heap.size) (i : Nat) (u : Value) : RBox wq p v l a pb (cs.setIfInBounds i u) (W.setCell ⟨pb, i, none⟩ u) :=
  ⟨h.ge, heap_setCell_same _ _ _ _ _ _ h.bx, h.tk.set (by have := h.ge; omega), grown_setNew h.g h.ge⟩
theorem GIn.later {α : Type} {K : Kind α} {tb : TypeId} {wr wq W : World} {p pb a : Nat} {v : Value} {l : List Int} {mk : Value → Array Value} {xs : List α} (h : GIn K tb wr p v l pb mk xs a wq) (hb : Below wq.heap.size wq W) : GIn K tb wr p v l pb mk xs a W := by
  obtain ⟨vc, h1, h2⟩ := h.bx
  exact ⟨vc, (hb.block pb (Array.getElem?_eq_some_iff.1 h1).1).trans h1, h2.later hb⟩
theorem one_new (w : World) (a : Value) (E : TypeId) : ∀ (j : Nat) (u : Value), [a][j]? = some u → (w.alloc (.cells #[a] E)).cell? ((⟨w.heap.size, 0, none⟩ : Addr).add j) = some u
  | 0, u, h => by rw [addr_add0]; exact cell_newk _ _ _ _ _ _ rfl (by simpa using h)
  | j + 1, u, h => by simp at h
theorem box_same2 {wc W5 w6 : World} {p pb bx base n : Nat} {c o : Obj} {cs : Array Value} {v : Value} {us : List Value} (hg5 : wc.grownBy W5 (some p)) (hpx : p ≠ bx) (hx : wc.heap[bx]? = some (.cells cs 25 (0, 0))) (hus : (W5.alloc o).ownsRow base 3 1 v n us) (hg : (W5.alloc o).grownBy w6 v.ownBlock)
    (h0 : wc.heap[pb]? = some c) (h1 : w6.heap[pb]? = some c) : IsSame wc (fun k => k = pb ∨ k = bx) w6 :=
  isSame_of fun k hk => by
    rcases hk with rfl | rfl
    · rw [h0, h1]
    · have hl := (Array.getElem?_eq_some_iff.1 hx).1
      have hs := hg5.size
      have h5 : W5.heap[k]? = wc.heap[k]? := hg5.block k hl fun e => by simp only [Option.some.injEq] at e; exact hpx e.symm
      have h5a : (W5.alloc o).heap[k]? = wc.heap[k]? := (heap_alloc_old _ _ (by omega)).trans h5
      refine (hg.block k (by simp; omega) fun e => ?_).trans h5a
      obtain ⟨cur, hc⟩ := owned_block hus e.symm
      rw [h5a, hx] at hc
      simp only [Option.some.injEq, Obj.cells.injEq] at hc
      exact absurd hc.2.1 (by decide)
/-- What lies behind a row's values and its owner's count. -/
structure RowEnd (wo : World) (n3 p : Nat) (v : Value) (l : List Int) (pt po : Nat) (mk : Value → Array Value) (xs : List RowV) (cs : Array Value) (a : Nat) (pb base : Nat) (ow : Int) (zs : List Int) (wc : World) : Prop where
  b : BIn wo n3 p v l pt po mk xs cs a wc
  lt : n3 ≤ base
  bx : ∃ u, wc.heap[pb]? = some (.cells #[.int .i64 ow, u] 34 (0, 0)) ∧ OSeq intK base wc u zs
theorem RowEnd.later {wo wc W : World} {n3 p pt po a pb base : Nat} {v : Value} {l : List Int} {mk : Value → Array Value} {xs : List RowV} {cs : Array Value} {ow : Int} {zs : List Int} (h : RowEnd wo n3 p v l pt po mk xs cs a pb base ow zs wc) (hpt : wo.heap.size ≤ pt) (hpo : wo.heap.size ≤ po) (hpl : p < wo.heap.size) (hb : Below wc.heap.size wc W) : RowEnd wo n3 p v l pt po mk xs cs a pb base ow zs W := by
  obtain ⟨u, h1, h2⟩ := h.bx
  exact ⟨h.b.grown hpt hpo hpl (grown_of_below hb _) (h.b.tk.later hb), h.lt, u, (hb.block pb (Array.getElem?_eq_some_iff.1 h1).1).trans h1, h2.later hb⟩
end Go.Proofs.YtlocafmglficnaaDoor
namespace Go.Proofs.YtlocafmglficnaaDoor
open Go.RowKit Go.Maps Go.Sort Go.Shelf

attribute [local go_sem] Oper.semAt_some
set_option maxRecDepth 100000 in
set_option maxHeartbeats 16000000 in
theorem base_any (C : TypeId → Nat → Prop) (v : Value) (l : List Int) (w : World) (h : SRow intK C w v l) :
    Calls Tryd.prog 32 #[v] w fun e w' => ∃ u, e = .returned u ∧ OSeq tblK w.heap.size w' u (baseOf l) ∧ Below w.heap.size w w' := by
  have HBW := Lib.hid (below_alloc w (.cells #[v, .int .i64 0] 87))
  have HTK := Lib.hid (show TkrAt (w.alloc (.cells #[v, .int .i64 0] 87)) w.heap.size v l 0 from ⟨heap_alloc_new _ _, h.keep fun E b _ hlt _ => ⟨hlt, HBW.out.block b hlt⟩, Nat.zero_le _⟩)
  obtain ⟨A, c, rfl, _, _, _, _⟩ := h.ints
  clear h
  obtain ⟨i31, hi31, hz10, hz11, hz12⟩ := info_parts info31
  obtain ⟨i34, hi34, hz40, hz41, hz42⟩ := info34p
  obtain ⟨i3, hi3, hz30, hz31, hz32⟩ := info_parts info3
  refine (callsIn_wide (n := 6)).1 ?_
  have h1 : 1 ≤ 6 := by omega
  refine callsIn_of_wp Tryd.func32 rfl trivial ?_ rfl
  simp only [Tryd.ntmps32, List.size_toArray, List.length_cons, List.length_nil, Nat.reduceAdd, Nat.reduceSub, Array.replicate_succ, Array.replicate_zero, List.push_toArray, List.append_toArray, List.nil_append, List.cons_append]
  gi_wp2
  refine ⟨trivial, ?_⟩
  gi_at_call 53
  refine (callsIn_wide.2 (schemas_gen w.heap.size _ l _ HTK.out)).mono ?_
  rintro e w2 ⟨u2, rfl, hos, htk, hg⟩
  have hw1 : w.heap.size < (w.alloc (.cells #[.slice A l.length c, .int .i64 0] 87)).heap.size := by simp
  generalize w.alloc (.cells #[.slice A l.length c, .int .i64 0] 87) = w1 at *
  have hsl := schemasOf_len l
  have HMEM := Lib.hid (fun S (hS : S ∈ schemasOf l) => schemasOf_mem l hS)
  obtain ⟨As, cs, rfl, _, _⟩ := hos.slice
  have HG := Lib.hid hg
  have HW2 := Lib.hid (show w.heap.size < w2.heap.size by have := hg.size; omega)
  have HOA := Lib.hid (show ∀ W, w2.grownBy W (some w.heap.size) → SRow schK (Own w1.heap.size W) W (.slice As (schemasOf l).length cs) (schemasOf l) from fun W hgW => (hos.grownP hgW htk.bx (by decide)).row)
  have HTK2 := Lib.hid htk
  generalize hss : schemasOf l = ss at *
  generalize haa : schemasA l = A0 at *
  have HSS := Lib.hid hss
  have HAA := Lib.hid haa
  have hsn : ss.length ≤ 3 := by omega
  clear hos htk hg hsl hss haa HTK
  gi_wp2
  gi_loopw [5, 6] (fun u i wr => ∃ k : Nat, k ≤ ss.length ∧ i = .int .i64 k ∧ GInv tblK w1 w.heap.size (.slice A l.length c) l u (bsC l ss A0 k) (bsA l ss A0 k) wr ∧ SRow schK (Own w1.heap.size wr) wr (.slice As ss.length cs) ss) (fun _ i _ => ss.length - (intOf i).toNat)
  case atStart => exact ⟨0, by omega, rfl, ⟨OSeq.nil _ _ _, HTK2.out, HG.out⟩, HOA.out w2 ⟨rfl, rfl, rfl, Nat.le_refl _, fun _ _ _ => rfl⟩⟩
  case round =>
    obtain ⟨k, hk, rfl, hinv, hg2⟩ := hrel
    have HG2 := Lib.hid hg2
    have hlen : (bsC l ss A0 k).length = k := by simp [bsC]
    obtain ⟨Au, cu, e, _, _⟩ := hinv.seq.slice
    rw [hlen] at e
    subst e
    have HI := Lib.hid hinv
    have HLEN := Lib.hid hlen
    have hsr := hinv.g.size
    clear hinv hlen hg2
    have hi0 : (0 : Int) ≤ (k : Int) := by omega
    by_cases hlt : k < ss.length
    · have hi1 : (k : Int) < (ss.length : Int) := by omega
      obtain ⟨As', cs', e, hsc, hsm, hcell⟩ := HG2.out.schs
      simp only [Value.slice.injEq, true_and] at e
      obtain ⟨rfl, rfl⟩ := e
      obtain ⟨b, o, rfl, hat⟩ := hcell (by omega)
      obtain ⟨uw, p0, p1, p2, p3, hcr, hfit⟩ := hat k hlt
      obtain ⟨Aw, cw, rfl, _, _⟩ := hcr.slice
      have HSK := Lib.hid (show ss[k]?.getD ⟨ByteArray.empty, false, 0, []⟩ = ss[k] by simp [hlt])
      have HCR := Lib.hid hcr
      have HSA := Lib.hid (show SchAt w1.heap.size wr b (o + k * 4) ss[k] (.slice Aw ss[k].cols.length cw) from ⟨(HG2.out.blockOf (by omega)).1, p1, p2, p3, hcr⟩)
      have HCS := Lib.hid (show (∀ c ∈ ss[k].cols, ColS c) ∧ ss[k].cols.length ≤ 5 from by
        obtain ⟨i', a', e, _⟩ := HMEM.out ss[k] (List.getElem_mem hlt)
        rw [e]
        obtain ⟨g1, g2, g3⟩ := schOf_cols l i' a'
        exact ⟨fun c hc => (g1 c hc).1, g3⟩)
      have HLT := Lib.hid hlt
      clear hcell hat hcr
      generalize ss[k] = S at *
      clear hlt
      have hmk : ∀ w : World, (Instr.makeSlice 32 (.int .i64 6) (.int .i64 6)).run Tryd.prog w = .ok (.slice (some ⟨w.heap.size, 0, none⟩) 6 6) (w.alloc (.cells #[.int .i64 0, .int .i64 0, .int .i64 0, .int .i64 0, .int .i64 0, .int .i64 0] 3)) := fun w => by kernel_rfl
      gi_upto_region 9 with fail
      obtain ⟨wo, rfl⟩ : ∃ wo, wo = wr := ⟨_, rfl⟩
      have hpl : w.heap.size < wo.heap.size := by omega
      have hz13 := tkV_lt l (bsA l ss A0 k) (n := 13) (by omega)
      obtain ⟨y, hy⟩ : ∃ y : Nat, tkV l (bsA l ss A0 k) 13 = (y : Int) := ⟨(tkV l (bsA l ss A0 k) 13).toNat, by omega⟩
      have HY := Lib.hid hy
      have hy13 : y < 13 := by omega
      clear hy hz13
      have HB3 := Lib.hid (show BIn wo (wo.heap.size + 2) w.heap.size (.slice A l.length c) l wo.heap.size (wo.heap.size + 1) (mkT S (.slice Aw S.cols.length cw)) [] #[.int .i64 0, .int .i64 0, .int .i64 0, .int .i64 0, .int .i64 0, .int .i64 0] (bsA l ss A0 k) ((wo.alloc (.cells (mkT S (.slice Aw S.cols.length cw) (.slice none 0 0)) 31)).alloc (.cells #[.int .i64 0, .int .i64 0, .int .i64 0, .int .i64 0, .int .i64 0, .int .i64 0] 3)) from by
        have hb2 : Below wo.heap.size wo ((wo.alloc (.cells (mkT S (.slice Aw S.cols.length cw) (.slice none 0 0)) 31)).alloc (.cells #[.int .i64 0, .int .i64 0, .int .i64 0, .int .i64 0, .int .i64 0, .int .i64 0] 3)) := by go_grown
        refine ⟨⟨_, (heap_alloc_old _ _ (by simp)).trans (heap_alloc_new wo _), OSeq.nil _ _ _⟩, ?_, HI.out.tk.later hb2, grown_of_below hb2 _, by simp⟩
        have := heap_alloc_new (wo.alloc (.cells (mkT S (.slice Aw S.cols.length cw) (.slice none 0 0)) 31)) (.cells #[.int .i64 0, .int .i64 0, .int .i64 0, .int .i64 0, .int .i64 0, .int .i64 0] 3)
        simpa using this)
      change Code.wpIn _ _ _ _ _ _ ((wo.alloc (.cells (mkT S (.slice Aw S.cols.length cw) (.slice none 0 0)) 31)).alloc (.cells #[.int .i64 0, .int .i64 0, .int .i64 0, .int .i64 0, .int .i64 0, .int .i64 0] 3))
      generalize (wo.alloc (.cells (mkT S (.slice Aw S.cols.length cw) (.slice none 0 0)) 31)).alloc (.cells #[.int .i64 0, .int .i64 0, .int .i64 0, .int .i64 0, .int .i64 0, .int .i64 0] 3) = w3 at *
      gi_wp2_with (refine ⟨trivial, ?_⟩; gi_at_call 54; refine (callsIn_wide.2 (take_any w.heap.size _ l _ 13 _ HB3.out.tk (by omega) (by omega))).mono ?_; rintro e w4 ⟨rfl, ht4, hg4⟩; rw [HY.out]; have HB4 := Lib.hid (HB3.out.grown (Nat.le_refl _) (Nat.le_succ _) hpl hg4 ht4); clear ht4 hg4)
      have HTA := Lib.hid (show tblOf l S (bsA l ss A0 k) = ⟨S, rsC l S (tkA l (bsA l ss A0 k) 13) y⟩ ∧ tblA l S (bsA l ss A0 k) = rsA l S (tkA l (bsA l ss A0 k) 13) y from ⟨by unfold tblOf; rw [HY.out]; rfl, by unfold tblA; rw [HY.out]; rfl⟩)
      generalize ha1 : tkA l (bsA l ss A0 k) 13 = a1 at *
      clear ha1
      gi_loopw [10] (fun j wq => ∃ m : Nat, m ≤ y ∧ j = .int .i64 m ∧ BIn wo (wo.heap.size + 2) w.heap.size (.slice A l.length c) l wo.heap.size (wo.heap.size + 1) (mkT S (.slice Aw S.cols.length cw)) (rsC l S a1 m) (cntV l S a1 m) (rsA l S a1 m) wq) (fun j _ => y - (intOf j).toNat)
      case atStart => exact ⟨0, Nat.zero_le _, rfl, HB4.out⟩
      case round =>
        obtain ⟨m, hm, rfl, hb⟩ := hrel
        have HB := Lib.hid hb
        have hm0 : (0 : Int) ≤ (m : Int) := by omega
        clear hb
        by_cases hlt2 : m < y
        · have HLT2 := Lib.hid hlt2
          have hm1 : (m : Int) < (y : Int) := by omega
          clear hlt2
          obtain ⟨wq, rfl⟩ : ∃ wq, wq = wr := ⟨_, rfl⟩
          have hgo := HB.out.g
          have hso := hgo.size
          have hsz := HB.out.sz
          have hpq : w.heap.size < wq.heap.size := by omega
          have hzr := tkV_lt l (rsA l S a1 m) (n := 5) (by omega)
          obtain ⟨z, hz⟩ : ∃ z : Int, tkV l (rsA l S a1 m) 5 = z := ⟨_, rfl⟩
          rw [hz] at hzr
          have HZ := Lib.hid hz
          clear hz hgo
          gi_upto_region 14 with (refine ⟨trivial, ?_⟩; gi_at_call 54; refine (callsIn_wide.2 (take_any w.heap.size _ l _ 5 _ HB.out.tk (by omega) (by omega))).mono ?_; rintro e W13 ⟨rfl, ht13, hg13⟩; rw [HZ.out]; have HT13 := Lib.hid ht13; have HG13 := Lib.hid hg13; clear ht13 hg13)
          have HR14 := Lib.hid (RBox.new #[.int .i64 (1 + z), .slice none 0 0] HG13.out HT13.out)
          change Code.wpIn _ _ _ _ _ _ (W13.alloc (.cells #[.int .i64 (1 + z), .slice none 0 0] 34))
          generalize W13.alloc (.cells #[.int .i64 (1 + z), .slice none 0 0] 34) = W14 at *
          generalize W13.heap.size = pb at *
          have HS14 := Lib.hid (HSA.out.grown (HB.out.g.trans HR14.out.g) (by omega) HI.out.tk.bx)
          obtain ⟨pu, hpu⟩ : ∃ pu : Bool, S.pub = pu := ⟨_, rfl⟩
          have y1 : W14.cell? ⟨b, o + k * 4 + 1, none⟩ = some (.bool pu) := hpu ▸ HS14.out.c1
          have hbl := cell_lt y1
          obtain ⟨r0, f0⟩ := cellrow HR14.out.bx 0 (by simp)
          have HPU := Lib.hid hpu
          obtain ⟨ow, how⟩ : ∃ ow : Nat, rOwner l S (rsA l S a1 m) = (ow : Int) := ⟨(rOwner l S (rsA l S a1 m)).toNat, by have := rOwner_lt l S (rsA l S a1 m); omega⟩
          have how6 : ow < 6 := by have := rOwner_lt l S (rsA l S a1 m); omega
          have HOW := Lib.hid how
          clear hpu how
          gi_upto_if 46 with fail
          gi_cut [] from 118 (fun wc => RBox wq w.heap.size (.slice A l.length c) l (tkA l (rsA l S a1 m) 5) pb #[.int .i64 (ow : Int), .slice none 0 0] wc)
          case first =>
            cases pu
            · have HOZ := Lib.hid (show (ow : Int) = 1 + z by rw [← HOW.out, ← HZ.out]; unfold rOwner; rw [HPU.out]; rfl)
              gi_wp2
              gi_meet
              case rel => rw [HOZ.out]; exact HR14.out
            · have HOZ := Lib.hid (show (ow : Int) = 0 by rw [← HOW.out]; unfold rOwner; rw [HPU.out]; rfl)
              gi_wp2
              gi_meet
              case rel => rw [HOZ.out]; exact HR14.out.set hpq 0 (.int .i64 0)
          case rest =>
            have HRB := Lib.hid hcut
            clear hcut HR14 HS14 y1 hbl r0 f0 HT13 HG13
            obtain ⟨a2, ha2⟩ : ∃ a2 : Nat, tkA l (rsA l S a1 m) 5 = a2 := ⟨_, rfl⟩
            have HA2 := Lib.hid ha2
            rw [ha2] at HRB
            clear ha2
            have hpb := HRB.out.ge
            gi_wp2
            gi_loopw [12] (fun j W => ∃ n : Nat, n ≤ S.cols.length ∧ j = .int .i64 n ∧ GIn intK 34 wq w.heap.size (.slice A l.length c) l pb (fun u => #[.int .i64 (ow : Int), u]) (vsC l S.cols a2 n) (vsA l S.cols a2 n) W) (fun j _ => S.cols.length - (intOf j).toNat)
            case atStart => exact ⟨0, Nat.zero_le _, rfl, ⟨_, HRB.out.bx, OSeq.nil _ _ _, HRB.out.tk, HRB.out.g⟩⟩
            case round =>
              obtain ⟨n, hn, rfl, hb3⟩ := hrel
              obtain ⟨vc, hbx, hgi⟩ := hb3.bx
              have hlv := vsC_len l S.cols a2 n
              obtain ⟨Av, cv, e, _, _⟩ := hgi.seq.slice
              rw [hlv] at e
              subst e
              have HB3 := Lib.hid hb3
              have hgr := HB.out.g.trans hgi.g
              have HSW := Lib.hid (HSA.out.grown hgr (by omega) HI.out.tk.bx)
              have y3 := HSW.out.c3
              have hbl := cell_lt y3
              have hn0 : (0 : Int) ≤ (n : Int) := by omega
              have hcl := HCS.out.2
              by_cases hlt3 : n < S.cols.length
              · have hn1 : (n : Int) < (S.cols.length : Int) := by omega
                have HLT3 := Lib.hid hlt3
                obtain ⟨bc, oc, A4, c4, e4, q0, q1, q2, q3, _, _⟩ := col_cells HSW.out.cr hlt3
                have HVC := Lib.hid (show vsC l S.cols a2 (n + 1) = vsC l S.cols a2 n ++ [(S.cols[n]?.getD default).lo + tkV l (vsA l S.cols a2 n) ((S.cols[n]?.getD default).hi - (S.cols[n]?.getD default).lo + 1)] from rfl)
                have HVA := Lib.hid (show vsA l S.cols a2 (n + 1) = tkA l (vsA l S.cols a2 n) ((S.cols[n]?.getD default).hi - (S.cols[n]?.getD default).lo + 1) from rfl)
                have hxs : ColS (S.cols[n]?.getD default) := by
                  rw [List.getElem?_eq_getElem hlt3]
                  exact HCS.out.1 _ (List.getElem_mem hlt3)
                subst e4
                generalize S.cols[n]?.getD default = x at *
                obtain ⟨hx1, hx2, hx3⟩ := hxs
                have hbcl := cell_lt q0
                have hzt := tkV_lt l (vsA l S.cols a2 n) (n := x.hi - x.lo + 1) (by omega)
                obtain ⟨t, ht⟩ : ∃ t : Int, tkV l (vsA l S.cols a2 n) (x.hi - x.lo + 1) = t := ⟨_, rfl⟩
                rw [ht] at hzt HVC
                have HTT := Lib.hid ht
                have HGI := Lib.hid hgi
                have HBX := Lib.hid hbx
                have hsw := hgi.g.size
                clear hgi hbx hgr ht hlt3 hb3 HB3
                gi_upto_region 20 with fail
                have hba := below_alloc wr (.cells #[.string x.name, .int .i64 x.lo, .int .i64 x.hi, .slice A4 x.words.length c4] 25)
                have HGC := Lib.hid (HGI.out.later hba)
                have HBC := Lib.hid ((hba.block pb (Array.getElem?_eq_some_iff.1 HBX.out).1).trans HBX.out)
                have HXC := Lib.hid (heap_alloc_new wr (.cells #[.string x.name, .int .i64 x.lo, .int .i64 x.hi, .slice A4 x.words.length c4] 25))
                have hsa := hba.size
                change Code.wpIn _ _ _ _ _ _ (wr.alloc (.cells #[.string x.name, .int .i64 x.lo, .int .i64 x.hi, .slice A4 x.words.length c4] 25))
                generalize wr.alloc (.cells #[.string x.name, .int .i64 x.lo, .int .i64 x.hi, .slice A4 x.words.length c4] 25) = wc at *
                have hbxl : wr.heap.size < wc.heap.size := (Array.getElem?_eq_some_iff.1 HXC.out).1
                generalize wr.heap.size = bx at *
                have hpbc := (Array.getElem?_eq_some_iff.1 HBC.out).1
                clear q0 q1 q2 q3 hba y3 hbl hbcl HSW HGI HBX
                have xB : ∀ X : SameAt wc (fun k => k = pb ∨ k = bx), X.W.cell? ⟨pb, 1, none⟩ = some (.slice Av n cv) := fun X => X.cell (Or.inl rfl) (cellrow HBC.out 1 (by simp)).1
                have x1 : ∀ X : SameAt wc (fun k => k = pb ∨ k = bx), X.W.cell? ⟨bx, 1, none⟩ = some (.int .i64 x.lo) := fun X => X.cell (Or.inr rfl) (cellrow HXC.out 1 (by simp)).1
                have x2 : ∀ X : SameAt wc (fun k => k = pb ∨ k = bx), X.W.cell? ⟨bx, 2, none⟩ = some (.int .i64 x.hi) := fun X => X.cell (Or.inr rfl) (cellrow HXC.out 2 (by simp)).1
                have HGD := Lib.hid (show GInv intK wq w.heap.size (.slice A l.length c) l (.slice Av n cv) (vsC l S.cols a2 n) (vsA l S.cols a2 n) wc.drew from HGC.out.later ⟨rfl, rfl, rfl, Nat.le_refl _, fun _ _ => rfl⟩)
                have hmx2 : Tryd.prog.follows .mixedOrders = true := by kernel_rfl
                refine wpIn_stage (IsSame wc (fun k => k = pb ∨ k = bx)) [0, 1, 2, 3, 4, 5, 6, 7, 8, 9, 10] [15, 16] hmx2 (by kernel_rfl) (isSame_of fun _ _ => rfl) ?_
                change wpStage _ _ _ _ _ _ _ _ (6 + 11) _ _ _
                refine stage_reads [0, 1, 2, 3, 4, 5, 6, 7, 8, 9, 10] 6 _ _ (by kernel_rfl) ?_
                change wpQuietIn _ _ _ _ (fun W => ∃ x : SameAt wc (fun k => k = pb ∨ k = bx), W = x.W) _ _ _
                simp only [pick_cons, pick_nil, List.getElem?_cons_zero, List.getElem?_cons_succ, Option.elim_some]
                repeat (gi_big_quiet_step (fail))
                refine wpQuietIn_nil ?_
                clear xB x1 x2
                refine stage_one 11 (by kernel_rfl) rfl ?_
                gi_wp2_with (refine ⟨trivial, ?_⟩; gi_at_call 54; go_loud (refine (callsIn_wide.2 (take_any w.heap.size _ l (vsA l S.cols a2 n) (x.hi - x.lo + 1) _ HGD.out.tk (by omega) (by omega))).mono ?_; rintro e W5 ⟨rfl, ht5, hg5⟩; rw [HTT.out]; rw [← HVA.out] at ht5; have HG5 := Lib.hid (HGD.out.take (by decide) hg5 ht5); have HGG := Lib.hid hg5; have hs5 : wc.heap.size ≤ W5.heap.size := hg5.size; clear ht5 hg5))
                have HK5 := Lib.hid (show ∀ k, k < wc.heap.size → k ≠ w.heap.size → W5.heap[k]? = wc.heap[k]? from fun k hk hne => HGG.out.block k hk fun e => hne (Option.some.inj e))
                refine stage_post (isSame_of fun k hk => HK5.out k (by rcases hk with hk | hk <;> omega) (by rcases hk with hk | hk <;> omega)) ?_
                refine stage_one 12 (by kernel_rfl) rfl ?_
                gi_wp2
                refine stage_post (isSame_of fun k hk => HK5.out k (by rcases hk with hk | hk <;> omega) (by rcases hk with hk | hk <;> omega)) ?_
                refine stage_one 13 (by kernel_rfl) rfl ?_
                gi_wp2
                refine stage_post (isSame_of fun k hk => (heap_alloc_old _ _ (show k < W5.heap.size by rcases hk with hk | hk <;> omega)).trans (HK5.out k (by rcases hk with hk | hk <;> omega) (by rcases hk with hk | hk <;> omega))) ?_
                refine stage_one 14 (by kernel_rfl) rfl ?_
                obtain ⟨us, hus⟩ := HG5.out.us (.cells #[.int .i64 (x.lo + t)] 3)
                have hlv := vsC_len l S.cols a2 n
                rw [hlv] at hus
                have HUS := Lib.hid hus
                have HLV := Lib.hid hlv
                have HKX := Lib.hid (show intK.is (Own wq.heap.size W5) W5 [.int .i64 (x.lo + t)] (x.lo + t) from ⟨rfl, by unfold Fit; omega⟩)
                have HNW := Lib.hid (one_new W5 (.int .i64 (x.lo + t)) 3)
                have HB5 := Lib.hid ((HK5.out pb hpbc (by omega)).trans HBC.out)
                clear hus hlv
                gi_wp2_with (gi_at_builtin; go_loud (refine wpListIn_append_own _ rfl _ _ 32 rfl wq.heap.size 3 i3 _ 1 8 Tryd.underlying32 hi3 hz30 hz31 hz32 rfl (by decide) _ _ us rfl HUS.out ⟨W5.heap.size, 0, none⟩ 1 1 [.int .i64 (x.lo + t)] rfl rfl HNW.out (by simp [Value.oneCell']) (by unfold maxLen; omega) (by omega) (by simp; omega) ?_; intro v1 w6 hown1 hgrow1 _; obtain ⟨Av1, cv1, rfl⟩ := slice_of hown1; obtain ⟨hb6, hc6, hf6, hb7, hg7⟩ := GInv.pushBox (f := 1) (mk := fun u => #[.int .i64 (ow : Int), u]) HG5.out hpq hpb HB5.out (fun _ _ => rfl) rfl (by decide) (by decide) HKX.out (by rw [HLV.out]; exact HUS.out) (by rw [HLV.out]; exact hown1) hgrow1; have HSM := Lib.hid (box_same2 (wc := wc) (pb := pb) (bx := bx) (show wc.grownBy W5 (some w.heap.size) from ⟨HGG.out.os, HGG.out.tape, HGG.out.output, HGG.out.size, HGG.out.block⟩) (by omega) HXC.out HUS.out hgrow1 HBC.out hb6); have HB7 := Lib.hid hb7; have HG7 := Lib.hid hg7; clear hown1 hgrow1 hb6 hb7 hg7))
                refine stage_post HSM.out ?_
                refine stage_one 15 (by kernel_rfl) rfl ?_
                gi_wp2
                refine stage_last rfl ?_
                refine stage_one 16 (by kernel_rfl) rfl ?_
                gi_wp2
                refine stage_last rfl ?_
                refine stage_done (by kernel_rfl) ?_
                gi_wp2
                go_roundw
                case rel => exact ⟨n + 1, HLT3.out, by go_num, by rw [HVC.out]; exact ⟨_, HB7.out, HG7.out⟩⟩
                case measure => have := HLT3.out; simp [intOf]; omega
              · obtain rfl : n = S.cols.length := by omega
                have HB9 := Lib.hid (HB.out.grown (by omega) (by omega) hpl hgi.g hgi.tk)
                have hcl2 := ownN_le l S a1 (ow : Int) m
                have c9 : wr.cell? ⟨wo.heap.size + 1, ow, none⟩ = some (.int .i64 (ownN l S a1 (ow : Int) m : Int)) := by simp only [World.cell?, HB9.out.ow]; simpa using cnt_at l S a1 m ow how6
                have f9 : wr.frozen? ⟨wo.heap.size + 1, ow, none⟩ = false := by simp [World.frozen?, HB9.out.ow]
                obtain ⟨r0, _⟩ := cellrow hbx 0 (by simp)
                have HC8 := Lib.hid (cnt_succ l S a1 m ow how6 HOW.out)
                have HO8 := Lib.hid (show (ownN l S a1 (ow : Int) (m + 1)) = ownN l S a1 (ow : Int) m + 1 by (show ownN l S a1 (ow : Int) m + _ = _); rw [HOW.out, if_pos rfl])
                generalize ownN l S a1 (ow : Int) m = cn at *
                have hsw := hgi.g.size
                have hbp := (Array.getElem?_eq_some_iff.1 hbx).1
                have ho0 : (0 : Int) ≤ (ow : Int) := by omega
                have ho6 : (ow : Int) < 6 := by omega
                have HE0 := Lib.hid (show RowEnd wo (wo.heap.size + 2) w.heap.size (.slice A l.length c) l wo.heap.size (wo.heap.size + 1) (mkT S (.slice Aw S.cols.length cw)) (rsC l S a1 m) (cntV l S a1 (m + 1)) (vsA l S.cols a2 S.cols.length) pb wq.heap.size (ow : Int) (vsC l S.cols a2 S.cols.length) (wr.setCell ⟨wo.heap.size + 1, ow, none⟩ (.int .i64 ((cn : Int) + 1))) from ⟨by rw [← HC8.out]; exact HB9.out.count (by omega) hpl (by omega) (by omega) ow _, by omega, _, (Below.heap_setCell _ _ _ _ (show pb ≠ wo.heap.size + 1 by omega)).trans hbx, hgi.seq.below (grown_set _ _ _ _) (by omega)⟩)
                clear hgi hbx hb3 HB3
                gi_upto_region 22 with fail
                change Code.wpIn _ _ _ _ _ _ (wr.setCell ⟨wo.heap.size + 1, ow, none⟩ (.int .i64 ((cn : Int) + 1)))
                generalize wr.setCell ⟨wo.heap.size + 1, ow, none⟩ (.int .i64 ((cn : Int) + 1)) = w8 at *
                have HS8 := Lib.hid (HSA.out.grown HE0.out.b.g (by omega) HI.out.tk.bx)
                clear y3 r0 c9 f9 HB9 HSW hbl hsw hbp HB hlt3
                have y1 : w8.cell? ⟨b, o + k * 4 + 1, none⟩ = some (.bool pu) := HPU.out ▸ HS8.out.c1
                have y2 := HS8.out.c2
                have hbl := cell_lt y1
                obtain ⟨u8, hb8, hs8⟩ := HE0.out.bx
                obtain ⟨r0, _⟩ := cellrow hb8 0 (by simp)
                have hbp := (Array.getElem?_eq_some_iff.1 hb8).1
                have c9 : w8.cell? ⟨wo.heap.size + 1, ow, none⟩ = some (.int .i64 ((cn : Int) + 1)) := by
                  have := cnt_at l S a1 (m + 1) ow how6
                  rw [HO8.out] at this
                  simp only [World.cell?, HE0.out.b.ow]
                  simpa using this
                have HK8 := Lib.hid (show rsK l S a1 m = (pu || decide ((cn : Int) + 1 ≤ S.many)) by unfold rsK; rw [HPU.out, HOW.out, HO8.out]; simp)
                have HCC := Lib.hid (show rsC l S a1 (m + 1) = rsC l S a1 m ++ (if rsK l S a1 m = true then [⟨(ow : Int), vsC l S.cols a2 S.cols.length⟩] else []) by (show rsC l S a1 m ++ (if rsK l S a1 m = true then [⟨rOwner l S (rsA l S a1 m), vsC l S.cols (tkA l (rsA l S a1 m) 5) S.cols.length⟩] else []) = _); rw [HOW.out, HA2.out])
                have HRA := Lib.hid (show rsA l S a1 (m + 1) = vsA l S.cols a2 S.cols.length by (show vsA l S.cols (tkA l (rsA l S a1 m) 5) S.cols.length = _); rw [HA2.out])
                clear hb8 hs8
                gi_cut [106] from 118 (fun c9 wc => c9 = .bool (rsK l S a1 m) ∧ RowEnd wo (wo.heap.size + 2) w.heap.size (.slice A l.length c) l wo.heap.size (wo.heap.size + 1) (mkT S (.slice Aw S.cols.length cw)) (rsC l S a1 m) (cntV l S a1 (m + 1)) (vsA l S.cols a2 S.cols.length) pb wq.heap.size (ow : Int) (vsC l S.cols a2 S.cols.length) wc)
                case first =>
                  have HQ := Lib.hid (show ∀ q, RowEnd wo (wo.heap.size + 2) w.heap.size (.slice A l.length c) l wo.heap.size (wo.heap.size + 1) (mkT S (.slice Aw S.cols.length cw)) (rsC l S a1 m) (cntV l S a1 (m + 1)) (vsA l S.cols a2 S.cols.length) pb wq.heap.size (ow : Int) (vsC l S.cols a2 S.cols.length) (w8.drewN q) from fun q => HE0.out.later (by omega) (by omega) hpl ⟨rfl, rfl, rfl, Nat.le_refl _, fun _ _ => rfl⟩)
                  cases pu
                  · by_cases hle : (cn : Int) + 1 ≤ S.many
                    · have hd : decide ((cn : Int) + 1 ≤ S.many) = true := by simpa using hle
                      have HKE := Lib.hid (show rsK l S a1 m = true by rw [HK8.out, hd]; rfl)
                      gi_wp2_with fail
                      gi_quiet (fail)
                      gi_wp2_with fail
                      gi_meet
                      case rel => exact ⟨by rw [HKE.out], HQ.out _⟩
                    · have hd : decide ((cn : Int) + 1 ≤ S.many) = false := by simpa using hle
                      have HKE := Lib.hid (show rsK l S a1 m = false by rw [HK8.out, hd]; rfl)
                      gi_wp2_with fail
                      gi_quiet (fail)
                      gi_wp2_with fail
                      gi_meet
                      case rel => exact ⟨by rw [HKE.out], HQ.out _⟩
                  · have HKE := Lib.hid (show rsK l S a1 m = true by rw [HK8.out]; rfl)
                    gi_wp2_with fail
                    gi_quiet (fail)
                    gi_wp2_with fail
                    gi_meet
                    case rel => exact ⟨by rw [HKE.out], HQ.out _⟩
                case rest =>
                  obtain ⟨rfl, hre⟩ := hcut
                  clear HE0 HS8 y1 y2 hbl r0 hbp c9 HK8
                  have HRE := Lib.hid hre
                  clear hre
                  obtain ⟨bb, hbb⟩ : ∃ bb : Bool, rsK l S a1 m = bb := ⟨_, rfl⟩
                  rw [hbb] at HCC ⊢
                  clear hbb
                  cases bb
                  · have HCC2 := Lib.hid (show rsC l S a1 (m + 1) = rsC l S a1 m by rw [HCC.out]; simp)
                    gi_wp2
                    go_roundw
                    case rel => exact ⟨m + 1, HLT2.out, by go_num, by rw [HCC2.out, HRA.out]; exact HRE.out.b⟩
                    case measure => have := HLT2.out; simp [intOf]; omega
                  · have HCC2 := Lib.hid (show rsC l S a1 (m + 1) = rsC l S a1 m ++ [⟨(ow : Int), vsC l S.cols a2 S.cols.length⟩] by rw [HCC.out]; simp)
                    have hlr := rsC_len l S a1 m
                    obtain ⟨vr, hbt, hsr9⟩ := HRE.out.b.bx
                    obtain ⟨Ar, cr, rfl, _, _⟩ := hsr9.slice
                    obtain ⟨u9, hb9, hs9⟩ := HRE.out.bx
                    have hlz := vsC_len l S.cols a2 S.cols.length
                    obtain ⟨Az, cz, e9, _, _⟩ := hs9.slice
                    rw [hlz] at e9
                    subst e9
                    have HRX := Lib.hid (show rowK.is (Own (wo.heap.size + 2) wc) wc [.int .i64 (ow : Int), .slice Az S.cols.length cz] ⟨(ow : Int), vsC l S.cols a2 S.cols.length⟩ from ⟨_, rfl, (hs9.base_le HRE.out.lt).row, by unfold Fit; dsimp only; omega⟩)
                    obtain ⟨us, hus⟩ := (hsr9.later (below_alloc wc (.cells #[.int .i64 (ow : Int), .slice Az S.cols.length cz] 34))).raw
                    have HUS := Lib.hid hus
                    have HSR := Lib.hid hsr9
                    have HBT := Lib.hid hbt
                    have HNW := Lib.hid (two_new wc (.int .i64 (ow : Int)) (.slice Az S.cols.length cz) 34)
                    obtain ⟨r0, _⟩ := cellrow hb9 0 (by simp)
                    obtain ⟨r1, _⟩ := cellrow hb9 1 (by simp)
                    obtain ⟨t4, _⟩ := cellrow hbt 4 (by simp [mkT])
                    simp only [mkT] at t4
                    have hb9l := (Array.getElem?_eq_some_iff.1 hb9).1
                    have hbtl := (Array.getElem?_eq_some_iff.1 hbt).1
                    clear hbt hsr9 hb9 hs9 hus hlz
                    gi_wp2_with (gi_at_builtin; go_loud (refine wpListIn_append_own _ rfl _ _ 29 rfl (wo.heap.size + 2) 34 i34 _ 2 32 Tryd.underlying29 hi34 hz40 hz41 hz42 rfl (by decide) _ _ us rfl HUS.out ⟨wc.heap.size, 0, none⟩ 1 1 [.int .i64 (ow : Int), .slice Az S.cols.length cz] rfl rfl HNW.out (by simp [Value.oneCell']) (by unfold maxLen; omega) (by omega) (by have := HRE.out.b.sz; simp; omega) ?_; intro v1 w6 hown1 hgrow1 _; obtain ⟨Av1, cv1, rfl⟩ := slice_of hown1; obtain ⟨hc6, hf6, hb7⟩ := BIn.push (f := 4) HRE.out.b HBT.out HSR.out (Nat.le_refl _) hpl (by omega) (by omega) (by omega) (fun _ _ => rfl) rfl HRX.out HUS.out hown1 hgrow1; have HB7 := Lib.hid hb7; clear hown1 hgrow1 hb7))
                    go_roundw
                    case rel => exact ⟨m + 1, HLT2.out, by go_num, by rw [HCC2.out, HRA.out]; exact HB7.out⟩
                    case measure => have := HLT2.out; simp [intOf]; omega
        · obtain rfl : m = y := by omega
          obtain ⟨vc, hbx, hsq⟩ := HB.out.bx
          obtain ⟨Ac, cc, rfl, _, _⟩ := hsq.slice
          have hgo := HB.out.g
          have hsz := HB.out.sz
          have hgw := HI.out.take (by decide) hgo HB.out.tk
          obtain ⟨us, hus⟩ := hgw.us (.cells #[.string S.name, .bool S.pub, .int .i64 S.many, .slice Aw S.cols.length cw, .slice Ac (rsC l S a1 m).length cc] 31)
          rw [HLEN.out] at hus
          have HUS := Lib.hid hus
          have HGW := Lib.hid hgw
          have hcr2 : SRow colK (Own w1.heap.size wr) wr (.slice Aw S.cols.length cw) S.cols := HCR.out.keep fun E b hE _ hO => own_keep hgo (fun r hr => by simp only [Option.some.injEq] at hr; subst hr; exact other31 HI.out.tk.bx (by decide) E hE) hO
          have HKX := Lib.hid (show tblK.is (Own w1.heap.size wr) wr [.string S.name, .bool S.pub, .int .i64 S.many, .slice Aw S.cols.length cw, .slice Ac (rsC l S a1 m).length cc] ⟨S, rsC l S a1 m⟩ from ⟨[.string S.name, .bool S.pub, .int .i64 S.many, .slice Aw S.cols.length cw], _, rfl, ⟨_, rfl, hcr2, hfit⟩, (hsq.base_le (by omega)).row⟩)
          have HSK2 := Lib.hid (HG2.out.keep (C' := Own w1.heap.size wr) (w' := wr) fun E b hE _ hO => own_keep hgo (fun r hr => by simp only [Option.some.injEq] at hr; subst hr; exact other31 HI.out.tk.bx (by decide) E hE) hO)
          have HNW := Lib.hid (five_new wr (.string S.name) (.bool S.pub) (.int .i64 S.many) (.slice Aw S.cols.length cw) (.slice Ac (rsC l S a1 m).length cc) 31)
          have hso := hgo.size
          obtain ⟨c0, _⟩ := cellrow hbx 0 (by simp [mkT])
          obtain ⟨c1, _⟩ := cellrow hbx 1 (by simp [mkT])
          obtain ⟨c2, _⟩ := cellrow hbx 2 (by simp [mkT])
          obtain ⟨c3, _⟩ := cellrow hbx 3 (by simp [mkT])
          obtain ⟨c4, _⟩ := cellrow hbx 4 (by simp [mkT])
          simp only [mkT] at c0 c1 c2 c3 c4
          clear hbx hsq hgo hgw hus hcr2 hlt2
          gi_wp2_with (gi_at_builtin; go_loud (refine wpListIn_append_own _ rfl _ _ 40 rfl w1.heap.size 31 i31 _ 5 80 Tryd.underlying40 hi31 hz10 hz11 hz12 rfl (by decide) _ _ us rfl HUS.out ⟨wr.heap.size, 0, none⟩ 1 1 [.string S.name, .bool S.pub, .int .i64 S.many, .slice Aw S.cols.length cw, .slice Ac (rsC l S a1 m).length cc] rfl rfl HNW.out (by simp [Value.oneCell']) (by unfold maxLen; omega) (by omega) (by simp; omega) ?_; intro v1 w6 hown1 hgrow1 _; obtain ⟨Av1, cv1, rfl⟩ := slice_of hown1; have HST := Lib.hid (HGW.out.push hw1 (by decide) HKX.out (by rw [HLEN.out]; exact HUS.out) (by rw [HLEN.out]; exact hown1) hgrow1); have HG6 := Lib.hid ((HSK2.out.ownLater (below_alloc wr (.cells #[.string S.name, .bool S.pub, .int .i64 S.many, .slice Aw S.cols.length cw, .slice Ac (rsC l S a1 m).length cc] 31))).keep (C' := Own w1.heap.size w6) (w' := w6) fun E b hE _ hO => own_keep hgrow1 (fun r hr cur e => by obtain ⟨cu', hc'⟩ := owned_block HUS.out hr; rw [hc'] at e; simp only [Option.some.injEq, Obj.cells.injEq] at e; exact absurd (e.2.1 ▸ hE) (by decide)) hO); clear hown1 hgrow1))
          go_roundw
          case rel => exact ⟨k + 1, HLT.out, by go_num, by rw [bsC_succ, HSK.out, HTA.out.1, show bsA l ss A0 (k + 1) = rsA l S a1 m by (show tblA l (ss[k]?.getD _) _ = _; rw [HSK.out, HTA.out.2])]; exact HST.out, HG6.out⟩
          case measure => have := HLT.out; simp [intOf]; omega
    · obtain rfl : k = ss.length := by omega
      gi_wp2
      refine bodyPost_ret (v := .slice Au ss.length cu) (by simp [results, Tryd.results32, go_sem]) rfl ⟨_, rfl, ?_, ?_⟩
      · unfold baseOf
        rw [HSS.out, HAA.out]
        exact HI.out.seq.base_le (Nat.le_of_lt hw1)
      · exact HBW.out.grown HI.out.g (Nat.le_of_lt hw1) fun k e => by simp only [Option.some.injEq] at e; omega
end Go.Proofs.YtlocafmglficnaaDoor
