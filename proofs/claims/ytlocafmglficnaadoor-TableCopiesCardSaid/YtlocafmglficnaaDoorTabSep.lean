/- table.CopyOf: the copy's tables lie in blocks of their own, one table's apart from another's. -/
import Derived.Test.YtlocafmglficnaaDoorTabCopyT
import Derived.Test.YtlocafmglficnaaDoorTabWithoutOf
namespace Go.Proofs.YtlocafmglficnaaDoor
open Go.RowKit Go.Maps Go.Sort Go.Shelf

/-- Blocks that the call made, from lo to hi. -/
def OwnR (lo hi : Nat) (w : World) (E : TypeId) (b : Nat) : Prop := b < hi ∧ Own lo w E b
/-- A slice of the call's own that reads as xs; the j-th element's parts lie from m j to m (j + 1). -/
def OSeqR {α : Type} (K : Kind α) (base : Nat) (m : Nat → Nat) (w : World) (v : Value) (xs : List α) : Prop :=
  ∃ ls : List (List Value), w.ownsRow base K.ty K.k v xs.length ls.flatten ∧ ls.length = xs.length ∧ ∀ (j : Nat) (x : α), xs[j]? = some x → ∃ l, ls[j]? = some l ∧ K.is (OwnR (m j) (m (j + 1)) w) w l x
theorem ownR_keep {lo hi : Nat} {w w' : World} {row : Option Nat} (hg : w.grownBy w' row) {E : TypeId} {b : Nat} (hE : ∀ r, row = some r → ∀ cur, w.heap[r]? ≠ some (.cells cur E (0, 0))) (h : OwnR lo hi w E b) : OwnR lo hi w' E b ∧ w'.heap[b]? = w.heap[b]? :=
  have := own_keep hg hE h.2
  ⟨⟨h.1, this.1⟩, this.2⟩
section
variable {α : Type} {K : Kind α} {base hi : Nat} {m : Nat → Nat} {w w' : World} {v v' : Value} {xs : List α}
theorem OSeqR.seq (h : OSeqR K base m w v xs) (hm : ∀ j, j < xs.length → base ≤ m j) : OSeq K base w v xs := by
  obtain ⟨ls, ho, hl, hx⟩ := h
  refine ⟨ls, ho, hl, fun j x hj => ?_⟩
  obtain ⟨l, e, hi⟩ := hx j x hj
  exact ⟨l, e, K.keep hi fun E b _ _ hO => ⟨⟨Nat.le_trans (hm j (List.getElem?_eq_some_iff.1 hj).1) hO.2.1, hO.2.2⟩, rfl⟩⟩
theorem OSeqR.nil (K : Kind α) (base : Nat) (m : Nat → Nat) (w : World) : OSeqR K base m w (.slice none 0 0) [] := ⟨[], World.ownsRow_nil _ _ _ _, rfl, fun j x h => by simp at h⟩
theorem OSeqR.raw (h : OSeqR K base m w v xs) : ∃ us, w.ownsRow base K.ty K.k v xs.length us := by
  obtain ⟨ls, ho, _⟩ := h
  exact ⟨_, ho⟩
theorem OSeqR.slice (h : OSeqR K base m w v xs) : ∃ A c, v = .slice A xs.length c ∧ xs.length ≤ c ∧ c ≤ maxLen := by
  obtain ⟨ls, ho, _⟩ := h
  rcases ho.2 with ⟨e, h0⟩ | ⟨g, cap, cur, e, _, _, h1, h2, _⟩
  · exact ⟨none, 0, by rw [e, h0], by omega, Nat.zero_le _⟩
  · exact ⟨_, _, e, h1, h2⟩
theorem OSeqR.later (h : OSeqR K base m w v xs) (hb : Below w.heap.size w w') : OSeqR K base m w' v xs := by
  obtain ⟨ls, ho, hl, hx⟩ := h
  have hg : w.grownBy w' none := ⟨hb.os, hb.tape, hb.output, hb.size, fun k hk _ => hb.block k hk⟩
  refine ⟨ls, ho.kept hg ?_, hl, fun j x hj => ?_⟩
  · cases hv : v.ownBlock with
    | none => exact .inl rfl
    | some g => exact .inr (by simp)
  · obtain ⟨l, e, hi⟩ := hx j x hj
    exact ⟨l, e, K.keep hi fun E b _ _ hO => ownR_keep hg (fun r hr => by cases hr) hO⟩
theorem OSeqR.app2 {us l : List Value} {x : α} (h : OSeqR K base m w v xs) (hK : K.ty ∉ K.inner) (hi1 : K.is (OwnR (m xs.length) hi w) w l x) (ho0 : w.ownsRow base K.ty K.k v xs.length us)
    (hown : w'.ownsRow base K.ty K.k v' (xs.length + 1) (us ++ l)) (hg : w.grownBy w' v.ownBlock) : OSeqR K base (fun j => if j ≤ xs.length then m j else hi) w' v' (xs ++ [x]) := by
  obtain ⟨ls, ho, hl, hx⟩ := h
  obtain rfl := own_uniq ho ho0
  have hE : ∀ r, v.ownBlock = some r → ∀ E ∈ K.inner, ∀ cur, w.heap[r]? ≠ some (.cells cur E (0, 0)) := by
    intro r hr E hin cur e
    obtain ⟨cur', e'⟩ := owned_block ho hr
    rw [e'] at e
    simp only [Option.some.injEq, Obj.cells.injEq] at e
    exact hK (e.2.1 ▸ hin)
  refine ⟨ls ++ [l], ?_, by simp [hl], fun j y hj => ?_⟩
  · simpa using hown
  · rcases Nat.lt_or_ge j xs.length with hlt | hge
    · rw [List.getElem?_append_left hlt] at hj
      obtain ⟨l', e, hi'⟩ := hx j y hj
      refine ⟨l', by rw [List.getElem?_append_left (by omega)]; exact e, ?_⟩
      dsimp only
      rw [if_pos (by omega), if_pos (by omega)]
      exact K.keep hi' fun E b hin _ hO => ownR_keep hg (fun r hr => hE r hr E hin) hO
    · rw [List.getElem?_append_right hge] at hj
      have hj0 : j - xs.length = 0 := by
        rcases Nat.eq_zero_or_pos (j - xs.length) with h0 | h0
        · exact h0
        · rw [List.getElem?_eq_none (by simp; omega)] at hj; cases hj
      rw [hj0] at hj
      simp only [List.getElem?_cons_zero, Option.some.injEq] at hj
      subst hj
      obtain rfl : j = xs.length := by omega
      refine ⟨l, by rw [List.getElem?_append_right (by omega), show xs.length - ls.length = 0 by omega]; rfl, ?_⟩
      dsimp only
      rw [if_pos (Nat.le_refl _), if_neg (by omega)]
      exact K.keep hi1 fun E b hin _ hO => ownR_keep hg (fun r hr => hE r hr E hin) hO
end
theorem OSeqR.tbl {base hi : Nat} {m : Nat → Nat} {W W' : World} {v v' : Value} {xs : List Tbl} {us : List Value} {x : Tbl} {cu ru : Value} {o : Obj} (h : OSeqR tblK base m W v xs) (hcu : SRow colK (OwnR (m xs.length) hi W) W cu x.sch.cols) (hru : SRow rowK (OwnR (m xs.length) hi W) W ru x.rows)
    (hst : x.sch.name.size ≤ maxLen ∧ Fit x.sch.many) (hus : (W.alloc o).ownsRow base 31 5 v xs.length us) (hown : W'.ownsRow base 31 5 v' (xs.length + 1) (us ++ [.string x.sch.name, .bool x.sch.pub, .int .i64 x.sch.many, cu, ru]))
    (hg : (W.alloc o).grownBy W' v.ownBlock) : OSeqR tblK base (fun j => if j ≤ xs.length then m j else hi) W' v' (xs ++ [x]) :=
  have hk : ∀ E b, OwnR (m xs.length) hi W E b → OwnR (m xs.length) hi (W.alloc o) E b ∧ (W.alloc o).heap[b]? = W.heap[b]? := fun E b hO => ownR_keep (grown_of_below (below_alloc W o) none) (fun r hr => by cases hr) hO
  (h.later (below_alloc W o)).app2 (by decide) ⟨[.string x.sch.name, .bool x.sch.pub, .int .i64 x.sch.many, cu], ru, rfl, ⟨cu, rfl, hcu.keep fun E b _ _ hO => hk E b hO, hst⟩, hru.keep fun E b _ _ hO => hk E b hO⟩ hus hown hg
theorem SRow.ranged {α : Type} {K : Kind α} {n lo : Nat} {w : World} {v : Value} {xs : List α} (h : SRow K (Own n w) w v xs) (hn : lo ≤ n) : SRow K (OwnR lo w.heap.size w) w v xs := h.keep fun _ _ _ hlt hO => ⟨⟨hlt, Nat.le_trans hn hO.1, hO.2⟩, rfl⟩
/-- The bounds of the tables' parts. -/
structure Bnd (base : Nat) (m : Nat → Nat) (k top : Nat) : Prop where
  lo : base ≤ m 0
  up : ∀ i j, i ≤ j → j ≤ k → m i ≤ m j
  hi : m k ≤ top
theorem Bnd.succ {base k top hi top' : Nat} {m : Nat → Nat} (h : Bnd base m k top) (h1 : top ≤ hi) (h2 : hi ≤ top') : Bnd base (fun j => if j ≤ k then m j else hi) (k + 1) top' := by
  refine ⟨by (show base ≤ if 0 ≤ k then m 0 else hi); rw [if_pos (Nat.zero_le k)]; exact h.lo, fun i j hij hj => ?_, by (show (if k + 1 ≤ k then m (k + 1) else hi) ≤ top'); rw [if_neg (by omega)]; exact h2⟩
  have h3 := h.hi
  by_cases hj' : j ≤ k
  · simp only [hj', if_true, show i ≤ k by omega]
    exact h.up i j hij hj'
  · simp only [hj', if_false]
    by_cases hi' : i ≤ k
    · simp only [hi', if_true]
      have := h.up i k hi' (Nat.le_refl _)
      omega
    · simp only [hi', if_false]
      exact Nat.le_refl _
theorem Bnd.top {base k top top' : Nat} {m : Nat → Nat} (h : Bnd base m k top) (h1 : top ≤ top') : Bnd base m k top' := ⟨h.lo, h.up, Nat.le_trans h.hi h1⟩

set_option maxRecDepth 100000 in
set_option maxHeartbeats 2000000 in
theorem copyOf_sep (C : TypeId → Nat → Prop) (v : Value) (ts : List Tbl) (w : World) (h : SRow tblK C w v ts) (hs : ∀ T ∈ ts, Small T) (hn : ts.length ≤ 1000000) :
    Calls Tryd.prog 36 #[v] w fun e w' => ∃ v' m, e = .returned v' ∧ OSeqR tblK w.heap.size m w' v' ts ∧ Bnd w.heap.size m ts.length w'.heap.size ∧ Below w.heap.size w w' := by
  obtain ⟨A, ca, rfl, hl, hm, hc⟩ := h.tbls
  unfold maxLen at hm
  have HC := Lib.hid hc
  have HS := Lib.hid hs
  clear hc h hs
  obtain ⟨i0, hi, hz0, hz1, hz2⟩ := info_parts info31
  refine (callsIn_wide (n := 6)).1 ?_
  have h1 : 1 ≤ 6 := by omega
  refine callsIn_of_wp Tryd.func36 rfl trivial ?_ rfl
  simp only [Tryd.ntmps36, List.size_toArray, List.length_cons, List.length_nil, Nat.reduceAdd, Nat.reduceSub, Array.replicate_succ, Array.replicate_zero, List.push_toArray, List.append_toArray, List.nil_append, List.cons_append]
  gi_wp2
  gi_loopw [3, 8] (fun u i wr => ∃ (k : Nat) (m : Nat → Nat), k ≤ ts.length ∧ i = .int .i64 k ∧ OSeqR tblK w.heap.size m wr u (ts.take k) ∧ Bnd w.heap.size m k wr.heap.size ∧ Below w.heap.size w wr) (fun _ i _ => ts.length - (intOf i).toNat)
  case atStart => exact ⟨0, fun _ => w.heap.size, Nat.zero_le _, rfl, OSeqR.nil _ _ _ _, ⟨Nat.le_refl _, fun _ _ _ _ => Nat.le_refl _, Nat.le_refl _⟩, Below.refl _ _⟩
  case round =>
    obtain ⟨k, m, hk, rfl, hseq, hbn, hB⟩ := hrel
    have HBN := Lib.hid hbn
    have hlen : (ts.take k).length = k := by simp; omega
    obtain ⟨Au, cu, e, _, _⟩ := hseq.slice
    rw [hlen] at e
    subst e
    have HQ := Lib.hid hseq
    have HB := Lib.hid hB
    clear hseq hB hbn
    have hi0 : (0 : Int) ≤ (k : Int) := by omega
    by_cases hlt : k < ts.length
    · have hi1 : (k : Int) < (ts.length : Int) := by omega
      obtain ⟨b, of, rfl, hcell⟩ := HC.out (by omega)
      obtain ⟨pu, pv, p0, p1, p2, p3, p4, pr, px, ps⟩ := hcell k hlt
      have pc0 := cell_later HB.out p0
      have pc1 := cell_later HB.out p1
      have pc2 := cell_later HB.out p2
      have pc3 := cell_later HB.out p3
      have pc4 := cell_later HB.out p4
      obtain ⟨pA, pc, rfl, _, _⟩ := pr.slice
      obtain ⟨pB, pd, rfl, _, _⟩ := px.slice
      have HVX := Lib.hid (show TblVal C wr (.agg #[.string ts[k].sch.name, .bool ts[k].sch.pub, .int .i64 ts[k].sch.many, .slice pA ts[k].sch.cols.length pc, .slice pB ts[k].rows.length pd]) ts[k] from ⟨_, _, rfl, pr.below HB.out, px.below HB.out, ps⟩)
      have HSM := Lib.hid (HS.out ts[k] (List.getElem_mem hlt))
      have HTK := Lib.hid (show ts.take (k + 1) = (ts.take k) ++ [ts[k]] from List.take_succ_eq_append_getElem hlt)
      have HPS := Lib.hid ps
      have HLEN := Lib.hid hlen
      have HLT := Lib.hid hlt
      clear hcell p0 p1 p2 p3 p4 pr px ps
      generalize ts[k] = T at *
      clear hlt
      have HB2 := Lib.hid (below_alloc wr (.cells #[.string T.sch.name, .bool T.sch.pub, .int .i64 T.sch.many, .slice pA T.sch.cols.length pc, .slice pB T.rows.length pd] 31))
      gi_wp2_with (first
        | (refine ⟨trivial, ?_⟩; gi_at_call 37; refine (callsIn_wide.2 (tcopy_any C _ T _ (HVX.out.below HB2.out) HSM.out)).mono ?_; rintro e w1 ⟨cu1, ru1, rfl, hcu1, hru1, hb1⟩; obtain ⟨A1, c1, rfl, _, _⟩ := hcu1.slice; obtain ⟨A2, c2, rfl, _, _⟩ := hru1.slice; have hbw := HB2.out.trans (hb1.mono HB2.out.size); have hsz1 := hbw.size; have hsz0 := HB.out.size; obtain ⟨us, hraw⟩ := (HQ.out.later hbw).raw; rw [HLEN.out] at hraw; have HUS := Lib.hid (hraw.alloc (.cells #[.string T.sch.name, .bool T.sch.pub, .int .i64 T.sch.many, .slice A1 T.sch.cols.length c1, .slice A2 T.rows.length c2] 31)); have HBW := Lib.hid (HB.out.trans (hbw.mono HB.out.size)); have HBX := Lib.hid hbw; have hmk := HBN.out.hi; have HCU := Lib.hid (hcu1.row.ranged (lo := m (ts.take k).length) (by rw [HLEN.out]; simp; omega)); have HRU := Lib.hid (hru1.row.ranged (lo := m (ts.take k).length) (by rw [HLEN.out]; simp; omega)); clear hmk; clear hcu1 hru1 hb1 hbw hraw; have HNW := Lib.hid (five_new w1 (.string T.sch.name) (.bool T.sch.pub) (.int .i64 T.sch.many) (.slice A1 T.sch.cols.length c1) (.slice A2 T.rows.length c2) 31))
        | (gi_at_builtin; go_loud (refine wpListIn_append_own _ rfl _ _ 40 rfl w.heap.size 31 i0 _ 5 80 Tryd.underlying40 hi hz0 hz1 hz2 rfl (by decide) _ _ us rfl HUS.out ⟨w1.heap.size, 0, none⟩ 1 1 [.string T.sch.name, .bool T.sch.pub, .int .i64 T.sch.many, .slice A1 T.sch.cols.length c1, .slice A2 T.rows.length c2] rfl rfl HNW.out (by simp [Value.oneCell']) (by unfold maxLen; omega) (by omega) (by simp; omega) ?_; intro v1 w6 hown1 hgrow1 _; obtain ⟨Av1, cv1, rfl⟩ := slice_of hown1; have HST := Lib.hid (OSeqR.tbl (x := T) (HQ.out.later HBX.out) HCU.out HRU.out HPS.out (by rw [HLEN.out]; exact HUS.out) (by rw [HLEN.out]; exact hown1) hgrow1); have HB6 := Lib.hid (grow_below (HBW.out.trans ((below_alloc _ _).mono HBW.out.size)) (by simp; omega) HUS.out hgrow1); have hsz6 : w1.heap.size ≤ w6.heap.size := (by have := hgrow1.size; simp at this; omega); have HB7 := Lib.hid (HBN.out.succ (hi := w1.heap.size) (top' := w6.heap.size) HBX.out.size hsz6); clear hsz6 hown1 hgrow1)))
      go_roundw
      case rel => exact ⟨k + 1, _, HLT.out, by go_num, by rw [HTK.out]; have := HST.out; rw [HLEN.out] at this; exact this, HB7.out, HB6.out⟩
      case measure => have := HLT.out; simp [intOf]; omega
    · obtain rfl : k = ts.length := by omega
      have HF := Lib.hid (show OSeqR tblK w.heap.size m wr (.slice Au ts.length cu) ts by
        have := HQ.out
        rwa [List.take_of_length_le (Nat.le_refl _)] at this)
      clear hlt
      gi_wp2
      refine bodyPost_ret (results_tmp rfl _ _ _) rfl ?_
      exact ⟨_, m, rfl, HF.out, HBN.out, HB.out⟩
end Go.Proofs.YtlocafmglficnaaDoor
