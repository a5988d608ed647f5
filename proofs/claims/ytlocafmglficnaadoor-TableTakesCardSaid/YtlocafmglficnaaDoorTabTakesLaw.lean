/- TableTakes: the plain law: the generated base is valid, and stays so without an owner. -/
import Derived.Test.YtlocafmglficnaaDoorTabAll
namespace Go.Proofs.YtlocafmglficnaaDoor
open Go.RowKit

def noT : Tbl := ⟨⟨ByteArray.empty, false, 0, []⟩, []⟩
def tblAt (ts : List Tbl) (i : Nat) : Int × Int × Int := if (tblErr (ts[i]?.getD noT)).1 ≠ 0 then ((tblErr (ts[i]?.getD noT)).1, (i : Int), (tblErr (ts[i]?.getD noT)).2) else (0, -1, -1)
/-- CheckBase. -/
def baseErr (ts : List Tbl) : Int × Int × Int := if (allErr (ts.map fun T => T.sch)).1 ≠ 0 then ((allErr (ts.map fun T => T.sch)).1, (allErr (ts.map fun T => T.sch)).2.1, -1) else firstOf ts.length (tblAt ts)

theorem names0_ok : nms0.all nameB = true := by kernel_rfl
theorem names1_ok : nms1.all nameB = true := by kernel_rfl
theorem names2_ok : nms2.all nameB = true := by kernel_rfl
theorem names0_nd : nms0.Nodup := by decide
theorem names1_nd : nms1.Nodup := by decide
theorem names2_nd : nms2.Nodup := by decide
theorem colOf_name (l : List Int) (a : Nat) (nm : ByteArray) : (colOf l a nm).name = nm := by unfold colOf; split <;> rfl
theorem colOf_err (l : List Int) (a : Nat) (nm : ByteArray) (hn : nameB nm = true) (pre : List Col) (hp : pre.any (fun d => decide (d.name = nm)) = false) : colErr pre (colOf l a nm) = 0 := by
  have h1 := tkV_lt l (tkA l a 3) (n := 5) (by omega)
  have h2 := tkV_lt l (tkA l a 3) (n := 9) (by omega)
  have h3 := tkV_lt l (tkA l (tkA l a 3) 9) (n := 8) (by omega)
  unfold colErr
  rw [colOf_name, hn, if_neg (by simp), if_neg (by rw [hp]; simp)]
  unfold colOf
  split
  · dsimp only
    generalize tkV l (tkA l a 3) 5 = x at *
    obtain ⟨y, rfl⟩ : ∃ y : Nat, x = (y : Int) := ⟨x.toNat, by omega⟩
    have hy : y < 5 := by omega
    have hl : (nms2.take (1 + ((y : Int)).toNat)).length = 1 + y := by
      rw [List.length_take, Int.toNat_natCast, show nms2.length = 5 from rfl]
      omega
    rw [if_pos (by rw [hl]; omega)]
    unfold wordsErr
    dsimp only
    rw [if_neg (by rw [hl]; omega), if_neg, if_neg, if_neg]
    · rw [hl]; omega
    · unfold dupS
      rw [decide_eq_true (names2_nd.sublist (List.take_sublist _ _))]
      simp
    · intro h
      obtain ⟨s, hs, hb⟩ := List.any_eq_true.1 h
      have := List.all_eq_true.1 names2_ok s (List.mem_of_mem_take hs)
      rw [this] at hb
      cases hb
  · dsimp only
    rw [if_neg (by simp), if_neg (by omega)]
theorem inC_sub (all : List Col) (l : List Int) (first : Int) (a : Nat) : ∀ k, k ≤ all.length → (inC all l first a k).Sublist (all.take k)
  | 0, _ => by simp [inC]
  | k + 1, hk => by
    have ih := inC_sub all l first a k (by omega)
    have hx : all[k]?.getD default = all[k] := by simp [show k < all.length by omega]
    rw [List.take_succ_eq_append_getElem (show k < all.length by omega)]
    unfold inC
    refine List.Sublist.append ih ?_
    rw [hx]
    split
    · exact List.Sublist.refl _
    · exact List.nil_sublist _
theorem allC_names (l : List Int) : (allC l 5).map (fun c => c.name) = nms1 := by
  unfold allC
  rw [List.map_map]
  have : ((fun c : Col => c.name) ∘ fun i => colOf l (allA l i) (nms1[i]?.getD default)) = fun i => nms1[i]?.getD default := by
    funext i
    exact colOf_name _ _ _
  rw [this]
  rfl
theorem colsErr_ok {cs : List Col} (hnd : (cs.map fun c => c.name).Nodup) (hc : ∀ c ∈ cs, ∀ pre : List Col, pre.any (fun d => decide (d.name = c.name)) = false → colErr pre c = 0) : colsErr cs = (0, -1) := by
  refine colsErr_miss fun i hi => ?_
  rw [errAt_eq hi]
  refine hc _ (List.getElem_mem hi) _ ?_
  rw [List.any_eq_false]
  intro d hd
  obtain ⟨j, hj, rfl⟩ := List.mem_take_iff_getElem.1 hd
  have hji : j < i := by omega
  have hjl : j < cs.length := by omega
  simp only [decide_eq_true_eq]
  intro e
  have hp := List.pairwise_iff_getElem.1 hnd j i (by simpa using hjl) (by simpa using hi) hji
  simp only [List.getElem_map] at hp
  exact hp e
theorem schOf_ok (l : List Int) (i a : Nat) (hi : i < 4) : schErr (schOf (allC l 5) l i a) = (0, -1) := by
  obtain ⟨h1, h2, h3⟩ := schOf_cols l i a
  have hz := tkV_lt l a (n := 4) (by omega)
  have hnm : nameB (nms0[i]?.getD default) = true := by
    have hl : i < nms0.length := hi
    rw [List.getElem?_eq_getElem hl]
    exact List.all_eq_true.1 names0_ok _ (List.getElem_mem hl)
  have hcols : colsErr (schOf (allC l 5) l i a).cols = (0, -1) := by
    have hsub : (schOf (allC l 5) l i a).cols.Sublist (allC l 5) := by
      have := inC_sub (allC l 5) l (sFirst l i a) (sA3 l i a) 5 (by simp [allC])
      rwa [List.take_of_length_le (by simp [allC])] at this
    refine colsErr_ok ?_ fun c hc pre hp => ?_
    · refine List.Nodup.sublist (hsub.map _) ?_
      rw [allC_names]
      exact names1_nd
    · obtain ⟨j, hj, rfl⟩ := List.mem_map.1 (hsub.subset hc)
      have hj5 := List.mem_range.1 hj
      have hl : j < nms1.length := hj5
      rw [colOf_name] at hp
      refine colOf_err _ _ _ ?_ _ hp
      rw [List.getElem?_eq_getElem hl]
      exact List.all_eq_true.1 names1_ok _ (List.getElem_mem hl)
  have hmb : manyBad (schOf (allC l 5) l i a) = false := by
    unfold manyBad schOf
    dsimp only
    cases sPub l i a
    · simp; omega
    · simp
  unfold schErr
  rw [hcols, hmb, show (schOf (allC l 5) l i a).name = nms0[i]?.getD default from rfl, hnm, if_neg (by simp), if_neg (by simp), if_neg (by rw [decide_eq_true_eq]; omega), if_neg (by rw [decide_eq_true_eq]; omega)]
/-- A valid table. -/
structure ValidT (T : Tbl) : Prop where
  sch : schErr T.sch = (0, -1)
  len : T.rows.length ≤ 2000
  row : ∀ r ∈ T.rows, r.vals.length = T.sch.cols.length ∧ ownBad T.sch.pub r.owner = false ∧ valsBad T.sch.cols r.vals = false
  cnt : T.sch.pub = false → ∀ o, (cnt T.rows o : Int) ≤ T.sch.many
theorem cnt_take (rows : List RowV) (i : Nat) (o : Int) : Go.Proofs.YtlocafmglficnaaDoor.cnt (rows.take i) o ≤ Go.Proofs.YtlocafmglficnaaDoor.cnt rows o := (List.take_sublist _ _).countP_le
theorem ValidT.err {T : Tbl} (h : ValidT T) : tblErr T = (0, -1) := by
  unfold tblErr
  rw [h.sch, if_neg (by simp), if_neg (by have := h.len; omega)]
  refine firstErr_miss fun i hi => ?_
  have hg : T.rows[i]?.getD default = T.rows[i] := by simp [hi]
  obtain ⟨h1, h2, h3⟩ := h.row _ (List.getElem_mem hi)
  unfold rowErr
  rw [hg, if_neg (by omega), if_neg (by rw [h2]; simp), if_neg (by rw [h3]; simp), if_neg]
  intro hh
  simp only [Bool.and_eq_true, Bool.not_eq_true', decide_eq_true_eq] at hh
  have := h.cnt hh.1 T.rows[i].owner
  have := cnt_take T.rows (i + 1) T.rows[i].owner
  omega
theorem ValidT.without {T : Tbl} (h : ValidT T) (a : Int) : ValidT (withoutT T a) := by
  have hs : (keptR T a).Sublist T.rows := List.filter_sublist
  refine ⟨h.sch, ?_, fun r hr => h.row r (hs.subset hr), fun hp o => ?_⟩
  · have := hs.length_le
    have := h.len
    show (keptR T a).length ≤ 2000
    omega
  · have h1 := h.cnt hp o
    have h2 : Go.Proofs.YtlocafmglficnaaDoor.cnt (keptR T a) o ≤ Go.Proofs.YtlocafmglficnaaDoor.cnt T.rows o := hs.countP_le
    show (Go.Proofs.YtlocafmglficnaaDoor.cnt (keptR T a) o : Int) ≤ T.sch.many
    omega
theorem vsC_get (l : List Int) (cs : List Col) (a : Nat) (hc : ∀ c ∈ cs, ColS c) : ∀ k, k ≤ cs.length → ∀ j, j < k → (cs[j]?.getD default).lo ≤ (vsC l cs a k)[j]?.getD 0 ∧ (vsC l cs a k)[j]?.getD 0 ≤ (cs[j]?.getD default).hi
  | 0, _, j, hj => by omega
  | k + 1, hk, j, hj => by
    have hl := vsC_len l cs a k
    unfold vsC
    rcases Nat.lt_or_ge j k with h | h
    · rw [List.getElem?_append_left (by omega)]
      exact vsC_get l cs a hc k (by omega) j h
    · obtain rfl : j = k := by omega
      rw [List.getElem?_append_right (by omega), hl, Nat.sub_self]
      have hm := hc cs[j] (List.getElem_mem (by omega))
      have hg : cs[j]?.getD default = cs[j] := by simp [show j < cs.length by omega]
      rw [hg]
      have h2 := hm.2.1
      have := tkV_lt l (vsA l cs a j) (n := cs[j].hi - cs[j].lo + 1) (by omega)
      simp only [List.getElem?_cons_zero, Option.getD_some]
      omega
theorem rsC_cnt (l : List Int) (S : Sch) (a : Nat) (hp : S.pub = false) (hm : 0 ≤ S.many) (o : Int) : ∀ j, (cnt (rsC l S a j) o : Int) ≤ S.many ∧ cnt (rsC l S a j) o ≤ ownN l S a o j
  | 0 => ⟨by simpa [rsC, cnt] using hm, Nat.le_refl _⟩
  | j + 1 => by
    obtain ⟨h1, h2⟩ := rsC_cnt l S a hp hm o j
    have ho : ownN l S a o (j + 1) = ownN l S a o j + if rOwner l S (rsA l S a j) = o then 1 else 0 := rfl
    by_cases hk : rsK l S a j = true
    · have hr : rsC l S a (j + 1) = rsC l S a j ++ [rowOf l S (rsA l S a j)] := by
        show rsC l S a j ++ (if _ then _ else _) = _
        rw [if_pos hk]
      have hcn : cnt (rsC l S a (j + 1)) o = cnt (rsC l S a j) o + if rOwner l S (rsA l S a j) = o then 1 else 0 := by
        rw [hr]
        unfold cnt
        rw [List.countP_append]
        congr 1
        by_cases e : rOwner l S (rsA l S a j) = o
        · simp [rowOf, e]
        · simp [rowOf, e]
      rw [hcn, ho]
      by_cases e : rOwner l S (rsA l S a j) = o
      · rw [if_pos e]
        unfold rsK at hk
        rw [hp, Bool.false_or, decide_eq_true_eq, e] at hk
        rw [ho, if_pos e] at hk
        omega
      · rw [if_neg e]
        omega
    · have hr : rsC l S a (j + 1) = rsC l S a j := by
        show rsC l S a j ++ (if _ then _ else _) = _
        rw [if_neg hk, List.append_nil]
      rw [hr, ho]
      omega
theorem rsC_rows (l : List Int) (S : Sch) (a : Nat) : ∀ j, ∀ r ∈ rsC l S a j, ∃ b, r = rowOf l S b
  | 0, r, h => by cases h
  | j + 1, r, h => by
    unfold rsC at h
    rcases List.mem_append.1 h with h | h
    · exact rsC_rows l S a j r h
    · split at h
      · simp only [List.mem_singleton] at h
        exact ⟨_, h⟩
      · cases h
theorem baseOf_valid {l : List Int} {T : Tbl} (h : T ∈ baseOf l) : ValidT T := by
  obtain ⟨S, hS, a, rfl⟩ := baseOf_mem h
  have hlen := (tblOf_small l hS a).2
  obtain ⟨i, b, hSe, hi⟩ := schemasOf_mem l hS
  have hms := schemasOf_len l
  have hok := schOf_ok l i b (by omega)
  rw [← hSe] at hok
  obtain ⟨hc1, _, _⟩ := schOf_cols l i b
  rw [← hSe] at hc1
  have hmany : 0 ≤ S.many := by
    have hz := tkV_lt l b (n := 4) (by omega)
    rw [hSe]
    unfold schOf
    dsimp only
    split <;> omega
  refine ⟨hok, by omega, fun r hr => ?_, fun hp o => (rsC_cnt l S _ hp hmany o _).1⟩
  obtain ⟨b', rfl⟩ := rsC_rows l S _ _ r hr
  have ho := tkV_lt l b' (n := 5) (by omega)
  refine ⟨vsC_len _ _ _ _, ?_, ?_⟩
  · show ownBad S.pub (rOwner l S b') = false
    unfold ownBad rOwner
    cases S.pub
    · simp; omega
    · simp
  · show valsBad S.cols (vsC l S.cols (tkA l b' 5) S.cols.length) = false
    unfold valsBad
    rw [List.any_eq_false]
    intro k hk
    have hk := List.mem_range.1 hk
    have := vsC_get l S.cols (tkA l b' 5) (fun c hc => (hc1 c hc).1) S.cols.length (Nat.le_refl _) k hk
    unfold valBad
    simp only [Bool.or_eq_true, decide_eq_true_eq, not_or]
    omega
theorem baseErr_ok {ts : List Tbl} (hv : ∀ T ∈ ts, ValidT T) (ha : allErr (ts.map fun T => T.sch) = (0, -1, -1)) : baseErr ts = (0, -1, -1) := by
  unfold baseErr
  rw [ha, if_neg (by simp)]
  refine firstOf_miss fun i hi => ?_
  unfold tblAt
  rw [List.getElem?_eq_getElem hi]
  simp [(hv _ (List.getElem_mem hi)).err]
theorem allErr_base (l : List Int) : allErr (schemasOf l) = (0, -1, -1) := by
  have hms := schemasOf_len l
  unfold allErr
  rw [if_neg (by omega)]
  refine firstOf_miss fun i hi => ?_
  have hat : ∀ j (hj : j < (schemasOf l).length), (schemasOf l)[j] = schOf (allC l 5) l j (soA l (tkA l (allA l 5) 3) j) := fun j hj => by simp [schemasOf, soC]
  unfold allAt
  rw [List.getElem?_eq_getElem hi, Option.getD_some, hat i hi, schOf_ok l i _ (by omega), if_neg (by simp), if_neg]
  intro hh
  obtain ⟨c, hc, he⟩ := List.any_eq_true.1 hh
  obtain ⟨j, hj, rfl⟩ := List.mem_take_iff_getElem.1 hc
  have hji : j < i := by omega
  have hjl : j < (schemasOf l).length := by omega
  rw [hat j hjl] at he
  simp only [decide_eq_true_eq] at he
  have hp := List.pairwise_iff_getElem.1 names0_nd j i (by have : nms0.length = 4 := rfl; omega) (by have : nms0.length = 4 := rfl; omega) hji
  refine hp ?_
  have e1 : (schOf (allC l 5) l j (soA l (tkA l (allA l 5) 3) j)).name = nms0[j]?.getD default := rfl
  have e2 : (schOf (allC l 5) l i (soA l (tkA l (allA l 5) 3) i)).name = nms0[i]?.getD default := rfl
  rw [e1, e2, List.getElem?_eq_getElem (by have : nms0.length = 4 := rfl; omega), List.getElem?_eq_getElem (by have : nms0.length = 4 := rfl; omega)] at he
  exact he
theorem base_schs (l : List Int) : (baseOf l).map (fun T => T.sch) = schemasOf l := by
  unfold baseOf bsC
  rw [List.map_map]
  apply List.ext_getElem
  · simp
  · intro i h1 h2
    simp [tblOf, h2]
theorem without_schs (ts : List Tbl) (a : Int) : (withoutB ts a).map (fun T => T.sch) = ts.map fun T => T.sch := by
  unfold withoutB
  rw [List.map_map]
  rfl
theorem base_ok (l : List Int) : baseErr (baseOf l) = (0, -1, -1) := baseErr_ok (fun _ h => baseOf_valid h) (by rw [base_schs]; exact allErr_base l)
theorem base_without_ok (l : List Int) (a : Int) : baseErr (withoutB (baseOf l) a) = (0, -1, -1) := baseErr_ok (fun U h => by
  obtain ⟨T, hT, rfl⟩ := List.mem_map.1 h
  exact (baseOf_valid hT).without a) (by rw [without_schs, base_schs]; exact allErr_base l)
/-- Two ascending lists with the same elements. -/
theorem asc_same : ∀ {xs ys : List Int}, xs.Pairwise (· < ·) → ys.Pairwise (· < ·) → (∀ x, x ∈ xs ↔ x ∈ ys) → xs = ys
  | [], [], _, _, _ => rfl
  | [], y :: ys, _, _, h => by have := (h y).2 (by simp); cases this
  | x :: xs, [], _, _, h => by have := (h x).1 (by simp); cases this
  | x :: xs, y :: ys, hx, hy, h => by
    rw [List.pairwise_cons] at hx hy
    have e : x = y := by
      rcases List.mem_cons.1 ((h x).1 (by simp)) with e | e
      · exact e
      · rcases List.mem_cons.1 ((h y).2 (by simp)) with e' | e'
        · exact e'.symm
        · have := hx.1 y e'
          have := hy.1 x e
          omega
    subst e
    congr 1
    refine asc_same hx.2 hy.2 fun z => ⟨fun hz => ?_, fun hz => ?_⟩
    · rcases List.mem_cons.1 ((h z).1 (by simp [hz])) with e | e
      · subst e
        have := hx.1 z hz
        omega
      · exact e
    · rcases List.mem_cons.1 ((h z).2 (by simp [hz])) with e | e
      · subst e
        have := hy.1 z hz
        omega
      · exact e
theorem owners_without (ts : List Tbl) (a : Int) : asc (ownersOf (withoutB ts a)) = (asc (ownersOf ts)).filter fun o => decide (o ≠ a) := by
  refine asc_same (asc_sorted _) ((asc_sorted _).filter _) fun x => ?_
  rw [mem_asc, mem_ownersOf_without, List.mem_filter, mem_asc]
  simp
end Go.Proofs.YtlocafmglficnaaDoor
