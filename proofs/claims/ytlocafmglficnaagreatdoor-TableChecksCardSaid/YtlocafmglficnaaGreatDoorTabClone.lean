/- Clones of lists of numbers, strings and columns. -/
import Derived.Test.YtlocafmglficnaaGreatDoorTabSameT
import Derived.Test.YtlocafmglficnaaGreatDoorStage
import Derived.OwnWalkIn
import Derived.Maps.OwnIn
namespace Go.Proofs.YtlocafmglficnaaGreatDoor
open Go.RowKit Go.Maps Go.Sort Go.Shelf

/-- A slice whose elements are read. -/
def Src (w : World) (size : Nat) (sv : Value) (m : Nat) (news : List Value) : Prop :=
  news.length = m * size ∧ ((∃ c, sv = .slice none 0 c ∧ m = 0) ∨ ∃ ad c, sv = .slice (some ad) m c ∧ ∀ j u, news[j]? = some u → w.cell? (ad.add j) = some u)

theorem run_append_empty {P : Program} (w : World) (base : Nat) (t ty e : TypeId) (i : TypeInfo) (size : Nat) (ht : P.underlying t = some (.slice e)) (hi : P.info? e = some i) (hsize : i.size = size)
    (v : Value) (n : Nat) (xs : List Value) (hown : w.ownsRow base e size v n xs) (c : Nat) : (Builtin.append_ #[t, t] ty #[v, .slice none 0 c]).run P w = .ok v w := by
  subst hsize
  rcases hown.2 with ⟨rfl, rfl⟩ | ⟨g, cap, cur, rfl, hbg, hg, hnc, hcm, hcs, htake⟩
  · simp [Builtin.append_, run_underlying ht, sizeOf, typeInfo, hi, Builtin.lenOf, Builtin.firstCells]
  · simp [Builtin.append_, run_underlying ht, sizeOf, typeInfo, hi, Builtin.lenOf, Builtin.firstCells, loadCells, hnc, storeCells]

theorem wpListIn_append_src {F : Fence} {n : Nat} {P : Program} (w : World) {ops : Array Oper} {rest : List Oper} {o : Oper} {a : Act} {Q : Exit → Act → World → Prop}
    (hg : o.guard = none) (s x : Operand) (t : TypeId) (hop : o.op = Op.call { callee := Callee.builtin Builtin.append, args := #[s, x], argTypes := #[t, t] })
    (base : Nat) (e : TypeId) (i : TypeInfo) (z : Value) (size bytes : Nat) (h1 : P.underlying t = some (.slice e)) (h2 : P.info? e = some i) (h3 : i.zero = some z) (h4 : i.size = size) (h5 : i.bytes = bytes) (h6 : z.cells.size = size) (h7 : 0 < size)
    (v : Value) (k : Nat) (xs : List Value) (hs : a.eval s = v) (hown : w.ownsRow base e size v k xs) (sv : Value) (m : Nat) (news : List Value) (hx : a.eval x = sv) (hsrc : Src w size sv m news)
    (h1c : ∀ u ∈ news, u.oneCell' = true) (b1 : k + m ≤ maxLen) (b2 : (k + m) * bytes ≤ 140737488355328) (b3 : base ≤ w.heap.size)
    (hK : ∀ v' w', w'.ownsRow base e size v' (k + m) (xs ++ news) → w.grownBy w' v.ownBlock → wpListIn F n P ops Q rest (a.put o.dst v') w') :
    wpListIn F n P ops Q (o :: rest) a w := by
  rcases hsrc with ⟨hl, ⟨c, rfl, rfl⟩ | ⟨ad, c, rfl, hc⟩⟩
  · have hn : news = [] := List.eq_nil_of_length_eq_zero (by simpa using hl)
    subst hn
    refine wpListIn_plain hg fun K hK' => ?_
    have hrun := run_append_empty (P := P) w base t o.type e i size h1 h2 h4 v k xs hown c
    unfold Oper.wpIn
    refine ⟨?_, ?_⟩
    · simp [Oper.about, hop, resolve, Target.leads, Sem.run_pure]
    · rw [Oper.semAt_plain F _ _ (by rw [hop]; intro c hc'; cases hc')]
      simp [execOp, hop, resolve, invoke, builtin, hs, hx, hrun, Result.andThen]
      exact hK' _ _ (hK v w (by simpa using hown) ⟨rfl, rfl, rfl, Nat.le_refl _, fun _ _ _ => rfl⟩)
  · exact wpListIn_append_own w hg s x t hop base e i z size bytes h1 h2 h3 h4 h5 h6 h7 v k xs hs hown ad m c news hx hl hc h1c b1 b2 b3 fun v' w' r1 r2 _ => hK v' w' r1 r2

theorem ownsRow_base_le {w : World} {b b' : Nat} {e : TypeId} {size : Nat} {v : Value} {n : Nat} {xs : List Value} (h : w.ownsRow b e size v n xs) (hb : b' ≤ b) : w.ownsRow b' e size v n xs := by
  refine ⟨h.1, ?_⟩
  rcases h.2 with h | ⟨g, cap, cur, e1, e2, e3⟩
  · exact .inl h
  · exact .inr ⟨g, cap, cur, e1, Nat.le_trans hb e2, e3⟩

theorem addr_add0 (b o j : Nat) : (⟨b, o, none⟩ : Addr).add j = ⟨b, o + j, none⟩ := by unfold Addr.add; split <;> simp_all
/-- The cells of a slice that is read, as a list. -/
theorem SRow.list {α : Type} {K : Kind α} {C : TypeId → Nat → Prop} {w : World} {v : Value} {xs : List α} (h : SRow K C w v xs) (hk : 0 < K.k) :
    ∃ ls : List (List Value), ls.length = xs.length ∧ (∀ (j : Nat) (x : α), xs[j]? = some x → ∃ l, ls[j]? = some l ∧ K.is C w l x) ∧ Src w K.k v xs.length ls.flatten := by
  obtain ⟨A, c, rfl, h1, h2, h3⟩ := h
  by_cases h0 : 0 < xs.length
  case neg =>
    have hx : xs = [] := List.eq_nil_of_length_eq_zero (by omega)
    subst hx
    refine ⟨[], rfl, fun j x hj => by simp at hj, by simp, ?_⟩
    cases A with
    | none => exact .inl ⟨c, rfl, rfl⟩
    | some a => exact .inr ⟨a, c, rfl, fun j u hj => by simp at hj⟩
  obtain ⟨b, o, rfl, _, _, hx⟩ := h3 h0
  have hall : ∀ j, ∃ l, j < xs.length → ∃ x, xs[j]? = some x ∧ K.is C w l x ∧ ∀ (i : Nat) (u : Value), l[i]? = some u → w.cell? ⟨b, o + j * K.k + i, none⟩ = some u := by
    intro j
    by_cases hj : j < xs.length
    · obtain ⟨l, hl, hc⟩ := hx j xs[j] (by simp [hj])
      exact ⟨l, fun _ => ⟨xs[j], by simp [hj], hl, hc⟩⟩
    · exact ⟨[], fun h => absurd h hj⟩
  let f : Nat → List Value := fun j => Classical.choose (hall j)
  have hf : ∀ j, j < xs.length → ∃ x, xs[j]? = some x ∧ K.is C w (f j) x ∧ ∀ (i : Nat) (u : Value), (f j)[i]? = some u → w.cell? ⟨b, o + j * K.k + i, none⟩ = some u := fun j => Classical.choose_spec (hall j)
  have hlen : ∀ l ∈ (List.range xs.length).map f, l.length = K.k := by
    intro l hl
    obtain ⟨j, hj, rfl⟩ := List.mem_map.1 hl
    obtain ⟨x, _, hi, _⟩ := hf j (List.mem_range.1 hj)
    exact K.len hi
  have hfl : ((List.range xs.length).map f).flatten.length = xs.length * K.k := by
    have : ∀ (ls : List (List Value)), (∀ l ∈ ls, l.length = K.k) → ls.flatten.length = ls.length * K.k := by
      intro ls
      induction ls with
      | nil => intro _; simp
      | cons l ls ih =>
        intro h
        rw [List.flatten_cons, List.length_append, ih (fun l hl => h l (List.mem_cons_of_mem _ hl)), h l (by simp), List.length_cons, Nat.add_mul, Nat.one_mul]
        omega
    rw [this _ hlen]; simp
  refine ⟨(List.range xs.length).map f, by simp, fun j x hj => ?_, hfl, .inr ⟨⟨b, o, none⟩, c, rfl, fun i u hi => ?_⟩⟩
  · have hjl : j < xs.length := (List.getElem?_eq_some_iff.1 hj).1
    obtain ⟨x', hx', hi, _⟩ := hf j hjl
    rw [hj, Option.some.injEq] at hx'
    subst hx'
    exact ⟨f j, by simp [hjl], hi⟩
  · have hil : i < xs.length * K.k := by rw [← hfl]; exact (List.getElem?_eq_some_iff.1 hi).1
    have hj : i / K.k < xs.length := Nat.div_lt_of_lt_mul (by rw [Nat.mul_comm]; exact hil)
    obtain ⟨x', hx', his, hc⟩ := hf _ hj
    have hr : i % K.k < (f (i / K.k)).length := by rw [K.len his]; exact Nat.mod_lt _ hk
    have hat := flatten_at hlen (j := i / K.k) (i := i % K.k) (l := f (i / K.k)) (u := (f (i / K.k))[i % K.k]) (by simp [hj]) (by simp [hr])
    have hdm : i / K.k * K.k + i % K.k = i := by rw [Nat.mul_comm]; exact Nat.div_add_mod i K.k
    rw [hdm, hi, Option.some.injEq] at hat
    have := hc (i % K.k) _ (List.getElem?_eq_getElem hr)
    rw [addr_add0, hat]
    rw [show o + i / K.k * K.k + i % K.k = o + i by omega] at this
    exact this

theorem cloneInts_any (C : TypeId → Nat → Prop) (v : Value) (zs : List Int) (w : World) (h : SRow intK C w v zs) (hn : zs.length ≤ 1000000) :
    Calls Tryz.prog 79 #[v] w fun e w' => ∃ v', e = .returned v' ∧ OSeq intK w.heap.size w' v' zs ∧ Below w.heap.size w w' := by
  obtain ⟨A, c, rfl, hl, hm, hf, hc⟩ := h.ints
  have hmk : ∀ (w' : World) (v' : Value), w'.ownsRow w.heap.size 3 1 v' zs.length (zs.map (Value.int .i64)) → OSeq intK w.heap.size w' v' zs := fun w' v' ho =>
    ⟨zs.map fun x => [.int .i64 x], by rw [flat1]; exact ho, by simp, fun j x hj => ⟨_, by simp [hj], rfl, by
      have hjl : j < zs.length := (List.getElem?_eq_some_iff.1 hj).1
      have e : zs[j] = x := by rw [List.getElem?_eq_getElem hjl] at hj; simpa using hj
      rw [← e]; exact hf j hjl⟩⟩
  cases A with
  | none =>
    have h0 : zs = [] := by
      rcases Nat.eq_zero_or_pos zs.length with h0 | h0
      · exact List.eq_nil_of_length_eq_zero h0
      · obtain ⟨b, o, e, _⟩ := hc h0; cases e
    subst h0
    refine (Tryz.slices_Clone_int_nil 0 c w).mono ?_
    rintro e w' ⟨rfl, rfl⟩
    exact ⟨_, rfl, hmk _ _ (World.ownsRow_nil _ _ _ _), Below.refl _ _⟩
  | some a =>
    rcases Nat.eq_zero_or_pos zs.length with h0 | h0
    · have hz : zs = [] := List.eq_nil_of_length_eq_zero h0
      subst hz
      refine (Tryz.slices_Clone_int_zero a c w).mono ?_
      rintro e w' ⟨v', rfl, ho, _, hb⟩
      exact ⟨_, rfl, hmk _ _ ho, hb⟩
    · obtain ⟨b, o, e, hcell⟩ := hc h0
      cases e
      refine (Tryz.slices_Clone_int b o zs.length c zs w (Nat.le_refl _) (by omega) (fun j hj => by rw [hcell j hj]; simp [List.getD, hj])).mono ?_
      rintro e w' ⟨v', rfl, ho, _, hb⟩
      rw [List.take_of_length_le (Nat.le_refl _)] at ho
      exact ⟨_, rfl, hmk _ _ ho, hb⟩
theorem cloneStrs_any (C : TypeId → Nat → Prop) (v : Value) (zs : List ByteArray) (w : World) (h : SRow strK C w v zs) (hn : zs.length ≤ 1000000) :
    Calls Tryz.prog 70 #[v] w fun e w' => ∃ v', e = .returned v' ∧ OSeq strK w.heap.size w' v' zs ∧ Below w.heap.size w w' := by
  obtain ⟨A, c, rfl, hl, hm, hf, hc⟩ := h.strs
  have hmk : ∀ (w' : World) (v' : Value), w'.ownsRow w.heap.size 9 1 v' zs.length (zs.map Value.string) → OSeq strK w.heap.size w' v' zs := fun w' v' ho =>
    ⟨zs.map fun x => [.string x], by rw [flat1]; exact ho, by simp, fun j x hj => ⟨_, by simp [hj], rfl, by
      have hjl : j < zs.length := (List.getElem?_eq_some_iff.1 hj).1
      have e : zs[j] = x := by rw [List.getElem?_eq_getElem hjl] at hj; simpa using hj
      rw [← e]; exact hf j hjl⟩⟩
  cases A with
  | none =>
    have h0 : zs = [] := by
      rcases Nat.eq_zero_or_pos zs.length with h0 | h0
      · exact List.eq_nil_of_length_eq_zero h0
      · obtain ⟨b, o, e, _⟩ := hc h0; cases e
    subst h0
    refine (Tryz.slices_Clone_string_nil 0 c w).mono ?_
    rintro e w' ⟨rfl, rfl⟩
    exact ⟨_, rfl, hmk _ _ (World.ownsRow_nil _ _ _ _), Below.refl _ _⟩
  | some a =>
    rcases Nat.eq_zero_or_pos zs.length with h0 | h0
    · have hz : zs = [] := List.eq_nil_of_length_eq_zero h0
      subst hz
      refine (Tryz.slices_Clone_string_zero a c w).mono ?_
      rintro e w' ⟨v', rfl, ho, _, hb⟩
      exact ⟨_, rfl, hmk _ _ ho, hb⟩
    · obtain ⟨b, o, e, hcell⟩ := hc h0
      cases e
      refine (Tryz.slices_Clone_string b o zs.length c zs w (Nat.le_refl _) (by omega) (fun j hj => by rw [hcell j hj]; simp [List.getD, hj])).mono ?_
      rintro e w' ⟨v', rfl, ho, _, hb⟩
      rw [List.take_of_length_le (Nat.le_refl _)] at ho
      exact ⟨_, rfl, hmk _ _ ho, hb⟩

theorem info25 : (Tryz.prog.info? 25).map (fun i => (i.zero, i.size, i.bytes)) = some (some (.agg #[.string ByteArray.empty, .int .i64 0, .int .i64 0, .slice none 0 0]), 4, 56) := by kernel_rfl
theorem own_empty (w : World) (base : Nat) (E : TypeId) (size : Nat) (hb : base ≤ w.heap.size) : (w.alloc (.cells #[] E)).ownsRow base E size (.slice (some ⟨w.heap.size, 0, none⟩) 0 0) 0 [] := by
  have := World.ownsRow_made (base := base) (e := E) (size := size) w #[] 0 hb (Nat.zero_le _) (by simp)
  simpa using this
attribute [local go_sem] Oper.semAt_some
set_option maxHeartbeats 1000000 in
theorem cloneCols_any (C : TypeId → Nat → Prop) (v : Value) (cs : List Col) (w : World) (h : SRow colK C w v cs) (hn : cs.length ≤ 1000000) :
    Calls Tryz.prog 69 #[v] w fun e w' => ∃ (v' : Value) (ls : List (List Value)), e = .returned v' ∧ w'.ownsRow w.heap.size 25 4 v' cs.length ls.flatten ∧ ls.length = cs.length ∧ (∀ (j : Nat) (x : Col), cs[j]? = some x → ∃ l, ls[j]? = some l ∧ colK.is C w l x) ∧ Below w.heap.size w w' := by
  obtain ⟨ls, hll, hls, hsrc⟩ := h.list (by decide)
  obtain ⟨A, c, rfl, hl, hm, _⟩ := h
  obtain ⟨i0, hi, hz0, hz1, hz2⟩ := info_parts info25
  have HSRC := Lib.hid hsrc
  have HLS := Lib.hid hls
  have HLL := Lib.hid hll
  clear hsrc hls hll
  have hone : ∀ u ∈ ls.flatten, u.oneCell' = true := by
    intro u hu
    obtain ⟨l, hl', hul⟩ := List.mem_flatten.1 hu
    obtain ⟨j, hj, rfl⟩ := List.getElem_of_mem hl'
    obtain ⟨l2, e2, u2, e3, hr, _⟩ := HLS.out j (cs[j]'(by have := HLL.out; omega)) (List.getElem?_eq_getElem (by have := HLL.out; omega))
    rw [List.getElem?_eq_getElem hj, Option.some.injEq] at e2
    rw [e2, e3] at hul
    obtain ⟨A', c', rfl, _⟩ := hr.slice
    simp at hul
    rcases hul with rfl | rfl | rfl | rfl <;> rfl
  have HONE := Lib.hid hone
  clear hone
  cases A with
  | none =>
    have h0 : cs = [] := by
      rcases HSRC.out.2 with ⟨c', e, hz⟩ | ⟨ad, c', e, _⟩
      · exact List.eq_nil_of_length_eq_zero hz
      · cases e
    subst h0
    have hl0 : ls = [] := List.eq_nil_of_length_eq_zero (by have := HLL.out; simpa using this)
    subst hl0
    have hq := Lib.run_eql_slice_nil (P := Tryz.prog) w 32 25 none 0 c 0 0 Tryz.underlying32
    go_enter Tryz.func69, Tryz.ntmps69
    go_wp2
    go_ret
    exact ⟨_, [], rfl, World.ownsRow_nil _ _ _ _, rfl, fun j x hj => by simp at hj, Below.refl _ _⟩
  | some a =>
    have hq := Lib.run_eql_slice_nil (P := Tryz.prog) w 32 25 (some a) cs.length c 0 0 Tryz.underlying32
    refine (callsIn_wide (n := 6)).1 ?_
    have h1 : 1 ≤ 6 := by omega
    refine callsIn_of_wp Tryz.func69 rfl trivial ?_ rfl
    simp only [Tryz.ntmps69, List.size_toArray, List.length_cons, List.length_nil, Nat.reduceAdd, Nat.reduceSub, Array.replicate_succ, Array.replicate_zero, List.push_toArray, List.append_toArray, List.nil_append, List.cons_append]
    have ho0 := own_empty w w.heap.size 25 4 (Nat.le_refl _)
    have hs1 : Src (w.alloc (.cells #[] 25)) 4 (.slice (some a) cs.length c) cs.length ls.flatten := by
      refine ⟨HSRC.out.1, ?_⟩
      rcases HSRC.out.2 with ⟨c', e, hz⟩ | ⟨ad, c', e, hc⟩
      · cases e
      · exact .inr ⟨ad, c', e, fun j u hj => cell_later (below_alloc w _) (hc j u hj)⟩
    have HS1 := Lib.hid hs1
    clear hs1
    gi_wp2_with (gi_at_builtin; refine wpListIn_append_src _ rfl _ _ 32 rfl w.heap.size 25 i0 (.agg #[.string ByteArray.empty, .int .i64 0, .int .i64 0, .slice none 0 0]) 4 56 Tryz.underlying32 hi hz0 hz1 hz2 rfl (by decide) (.slice (some ⟨w.heap.size, 0, none⟩) 0 0) 0 [] rfl ho0 _ cs.length ls.flatten rfl HS1.out HONE.out (by unfold maxLen; omega) (by omega) (by simp) ?_; intro v' w1 hown1 hgrow1)
    have hb1 := (below_alloc w (.cells #[] 25)).grown hgrow1 (Nat.le_of_lt (by simp)) (fun r hr => by simp [Value.ownBlock] at hr; omega)
    go_ret
    exact ⟨v', ls, rfl, by simpa using hown1, HLL.out, HLS.out, hb1⟩
end Go.Proofs.YtlocafmglficnaaGreatDoor
