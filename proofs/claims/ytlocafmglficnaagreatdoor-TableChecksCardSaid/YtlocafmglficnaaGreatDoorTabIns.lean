/- The reference's insert into an ascending list. -/
import Derived.Test.YtlocafmglficnaaGreatDoorTabOwnOf
namespace Go.Proofs.YtlocafmglficnaaGreatDoor
open Go.RowKit Go.Maps Go.Sort Go.Shelf

abbrev intV (x : Int) : Value := .int .i64 x
theorem OSeq.ints {base : Nat} {w : World} {v : Value} {l : List Int} (h : OSeq intK base w v l) : w.ownsRow base 3 1 v l.length (l.map intV) ∧ ∀ x ∈ l, Fit x := by
  obtain ⟨ls, ho, hll, hx⟩ := h
  have e : ls.flatten = l.map intV := by
    have : ls = l.map fun x => [intV x] := by
      refine List.ext_getElem (by simp [hll]) fun j h1 h2 => ?_
      obtain ⟨l', e1, e2, _⟩ := hx j l[j] (by simp)
      rw [List.getElem?_eq_getElem h1, Option.some.injEq] at e1
      simp [e1, e2]
    rw [this, flat1]
  refine ⟨e ▸ ho, fun x hm => ?_⟩
  obtain ⟨j, hj, rfl⟩ := List.getElem_of_mem hm
  obtain ⟨l', _, _, hf⟩ := hx j l[j] (by simp [hj])
  exact hf
theorem OSeq.of_ints {base : Nat} {w : World} {v : Value} {l : List Int} (h : w.ownsRow base 3 1 v l.length (l.map intV)) (hf : ∀ x ∈ l, Fit x) : OSeq intK base w v l :=
  ⟨l.map fun x => [intV x], by rw [flat1]; exact h, by simp, fun j x hj => ⟨_, by simp [hj], rfl, by
    have hjl : j < l.length := (List.getElem?_eq_some_iff.1 hj).1
    have e : l[j] = x := by rw [List.getElem?_eq_getElem hjl] at hj; simpa using hj
    rw [← e]; exact hf _ (List.getElem_mem hjl)⟩⟩
theorem ins_at {l : List Int} {n : Int} {k : Nat} (hk : k ≤ l.length) (h1 : ∀ m (hm : m < l.length), m < k → l[m] < n) (h2 : ∀ hk : k < l.length, ¬ l[k] < n) :
    ins l n = if l[k]? = some n then l else l.take k ++ n :: l.drop k := by
  have ht : l.takeWhile (fun x => decide (x < n)) = l.take k ∧ l.dropWhile (fun x => decide (x < n)) = l.drop k := by
    induction k generalizing l with
    | zero =>
      cases l with
      | nil => simp
      | cons x l =>
        have := h2 (by simp)
        simp at this
        simp [this]
    | succ k ih =>
      cases l with
      | nil => simp at hk
      | cons x l =>
        have h0 := h1 0 (by simp) (by omega)
        simp at h0
        obtain ⟨i1, i2⟩ := ih (l := l) (by simpa using hk) (fun m hm hmk => by have := h1 (m + 1) (by simpa using hm) (by omega); simpa using this) (fun hk' => by have := h2 (by simpa using hk'); simpa using this)
        simp [h0, i1, i2]
  unfold ins
  rw [ht.1, ht.2, List.head?_drop]
  split
  · exact List.take_append_drop k l
  · rfl
theorem src_ints {base g cap n : Nat} {w W : World} {l : List Int} (h : w.ownsRow base 3 1 (.slice (some ⟨g, 0, none⟩) n cap) n (l.map intV)) (hn : n = l.length) (hB : Below w.heap.size w W) {k : Nat} (hk : k ≤ l.length) {c : Nat} :
    Src W 1 (.slice (some ⟨g, 0, none⟩) k c) k ((l.take k).map intV) := by
  subst hn
  refine ⟨by simp; omega, .inr ⟨_, _, rfl, fun j u hu => ?_⟩⟩
  rw [List.map_take, List.getElem?_take] at hu
  split at hu
  · exact cell_later hB (h.cells (g := g) rfl j u hu)
  · cases hu
theorem src_ints2 {base g cap n : Nat} {w W : World} {l : List Int} (h : w.ownsRow base 3 1 (.slice (some ⟨g, 0, none⟩) n cap) n (l.map intV)) (hn : n = l.length) (hB : Below w.heap.size w W) {k : Nat} {c : Nat} :
    Src W 1 (.slice (some ⟨g, k, none⟩) (l.length - k) c) (l.length - k) ((l.drop k).map intV) := by
  subst hn
  refine ⟨by simp, .inr ⟨_, _, rfl, fun j u hu => ?_⟩⟩
  rw [List.map_drop, List.getElem?_drop] at hu
  have := cell_later hB (h.cells (g := g) rfl (k + j) u hu)
  rw [addr_add0] at this ⊢
  rwa [Nat.zero_add] at this
theorem src_zero {W : World} {A : Option Addr} {c : Nat} : Src W 1 (.slice A 0 c) 0 [] := by
  refine ⟨rfl, ?_⟩
  cases A with
  | none => exact .inl ⟨c, rfl, rfl⟩
  | some a => exact .inr ⟨a, c, rfl, fun j u h => by simp at h⟩
theorem src_one {W : World} {B : Nat} {n : Int} (h : W.heap[B]? = some (.cells #[intV n] 3 (0, 0))) : Src W 1 (.slice (some ⟨B, 0, none⟩) 1 1) 1 [intV n] :=
  ⟨rfl, .inr ⟨_, _, rfl, fun j u hu => by
    match j with
    | 0 => rw [addr_add0]; simp at hu; subst hu; simp [World.cell?, h]
    | j + 1 => simp at hu⟩⟩
theorem one_intV (l : List Int) : ∀ u ∈ l.map intV, u.oneCell' = true := fun u hu => by
  obtain ⟨x, _, rfl⟩ := List.mem_map.1 hu
  rfl
theorem two_old (w : World) (o1 o2 : Obj) : ((w.alloc o1).alloc o2).drew.heap[w.heap.size]? = some o1 := (heap_alloc_old (w.alloc o1) o2 (by simp)).trans (heap_alloc_new w o1)
theorem two_cur (w : World) (o1 o2 : Obj) : ((w.alloc o1).alloc o2).drew.heap[w.heap.size + 1]? = some o2 := by
  have := heap_alloc_new (w.alloc o1) o2
  show ((w.alloc o1).alloc o2).heap[w.heap.size + 1]? = some o2
  simpa using this
theorem own_at {W : World} {base b : Nat} (hb : base ≤ b) (h : W.heap[b]? = some (.cells #[] 3 (0, 0))) : W.ownsRow base 3 1 (.slice (some ⟨b, 0, none⟩) 0 0) 0 [] :=
  ⟨rfl, .inr ⟨b, 0, #[], rfl, hb, h, Nat.le_refl _, Nat.zero_le _, rfl, rfl⟩⟩
/-- What is given back. -/
theorem ins_fin {base : Nat} {w w5 : World} {l : List Int} {n : Int} {k : Nat} {v : Value} (hk : k ≤ l.length) (hf : ∀ x ∈ l, Fit x) (hn : Fit n) (hins : ins l n = l.take k ++ n :: l.drop k) (hb : base ≤ w.heap.size)
    (hown : w5.ownsRow w.heap.size 3 1 v (k + 1 + (l.length - k)) ((l.take k).map intV ++ [intV n] ++ (l.drop k).map intV)) : OSeq intK base w5 v (ins l n) := by
  rw [hins]
  have h : OSeq intK w.heap.size w5 v (l.take k ++ n :: l.drop k) := by
    refine OSeq.of_ints ?_ fun x hx => ?_
    · have e : (l.take k ++ n :: l.drop k).length = k + 1 + (l.length - k) := by simp; omega
      rw [e]
      simpa using hown
    · simp only [List.mem_append, List.mem_cons] at hx
      rcases hx with h | rfl | h
      · exact hf _ (List.mem_of_mem_take h)
      · exact hn
      · exact hf _ (List.mem_of_mem_drop h)
  exact h.base_le hb
attribute [local go_sem] Oper.semAt_some
set_option maxRecDepth 100000 in
set_option maxHeartbeats 8000000 in
theorem rinsert_any (base : Nat) (v : Value) (l : List Int) (n : Int) (w : World) (h : OSeq intK base w v l) (hbase : base ≤ w.heap.size) (hn : Fit n) (hl : l.length ≤ 1000000) :
    Calls Tryz.prog 58 #[v, .int .i64 n] w fun e w' => ∃ v', e = .returned v' ∧ OSeq intK base w' v' (ins l n) ∧ Below w.heap.size w w' := by
  have HO := Lib.hid h
  obtain ⟨hown, hf⟩ := h.ints
  obtain ⟨A, c, rfl⟩ := slice_of hown
  have HW := Lib.hid hown
  have HF := Lib.hid (And.intro hf hn)
  have hcap : A = none ∧ c = 0 ∧ l.length = 0 ∨ ∃ g, A = some ⟨g, 0, none⟩ ∧ l.length ≤ c ∧ c ≤ 9223372036854775807 := by
    rcases hown.2 with ⟨e, h0⟩ | ⟨g, c', cur, e, _, _, h1, h2, _⟩
    · simp only [Value.slice.injEq] at e; exact .inl ⟨e.1, e.2.2, h0⟩
    · simp only [Value.slice.injEq] at e; unfold maxLen at h2; exact .inr ⟨g, e.1, by omega, by omega⟩
  have hcell : ∀ j (hj : j < l.length), ∃ g, A = some ⟨g, 0, none⟩ ∧ w.cell? ⟨g, j, none⟩ = some (.int .i64 l[j]) := fun j hj => by
    rcases hcap with ⟨_, _, h0⟩ | ⟨g, e, _⟩
    · omega
    · subst e
      have := hown.cells (g := g) rfl j (.int .i64 l[j]) (by simp [hj])
      rw [addr_add0, Nat.zero_add] at this
      exact ⟨g, rfl, this⟩
  have HC := Lib.hid hcell
  clear h hown hf hcell
  obtain ⟨i3, hi3, hz30, hz31, hz32⟩ := info_parts info3
  refine (callsIn_wide (n := 6)).1 ?_
  have h1 : 1 ≤ 6 := by omega
  refine callsIn_of_wp Tryz.func58 rfl trivial ?_ rfl
  simp only [Tryz.ntmps58, List.size_toArray, List.length_cons, List.length_nil, Nat.reduceAdd, Nat.reduceSub, Array.replicate_succ, Array.replicate_zero, List.push_toArray, List.append_toArray, List.nil_append, List.cons_append]
  gi_wp2
  gi_loopw [5] (fun i wr => w = wr ∧ ∃ k : Nat, k ≤ l.length ∧ i = .int .i64 k ∧ ∀ m (_ : m < l.length), m < k → l[m] < n) (fun i _ => l.length - (intOf i).toNat)
  case atStart => exact ⟨rfl, 0, Nat.zero_le _, rfl, fun m _ hm => by omega⟩
  case round =>
    obtain ⟨rfl, k, hk, rfl, hno⟩ := hrel
    have HNO := Lib.hid hno
    clear hno
    have hi0 : (0 : Int) ≤ (k : Int) := by omega
    have hmx : Tryz.prog.follows .mixedOrders = true := by kernel_rfl
    by_cases hlt : k < l.length
    · obtain ⟨g, rfl, hc⟩ := HC.out k hlt
      have hi1 : (k : Int) < (l.length : Int) := by omega
      have HL := Lib.hid (show l[k]? = some l[k] from List.getElem?_eq_getElem hlt)
      have HN1 := Lib.hid (show l[k] < n → ∀ m (_ : m < l.length), m < k + 1 → l[m] < n from fun h0 m hm h => by
        rcases Nat.lt_or_ge m k with h1 | h1
        · exact HNO.out m hm h1
        · obtain rfl : m = k := by omega
          exact h0)
      have HI := Lib.hid (show ¬ l[k] < n → ins l n = if l[k]? = some n then l else l.take k ++ n :: l.drop k from fun h0 => ins_at hk HNO.out (fun _ => h0))
      generalize l[k] = x at *
      by_cases hx : x < n
      · have HN2 := Lib.hid (HN1.out hx)
        clear hlt
        gi_wp2
        go_roundw
        case rel => exact ⟨trivial, k + 1, by omega, by go_num, HN2.out⟩
        case measure => simp [intOf]; omega
      by_cases hxn : x = n
      · subst hxn
        have HE := Lib.hid (show OSeq intK base w (.slice (some ⟨g, 0, none⟩) l.length c) (ins l x) by rw [HI.out hx, if_pos HL.out]; exact HO.out)
        have hxb : (x == x) = true := by simp
        clear hlt
        gi_wp2
        refine bodyPost_ret (results_tmp rfl _ _ _) rfl ?_
        exact ⟨_, rfl, HE.out, Below.refl _ _⟩
      have HINS := Lib.hid (show ins l n = l.take k ++ n :: l.drop k by rw [HI.out hx, HL.out, if_neg (by simpa using hxn)])
      have hxb : (x == n) = false := by simpa using hxn
      have hcl : l.length ≤ c ∧ c ≤ 9223372036854775807 := by
        rcases hcap with ⟨e, _⟩ | ⟨_, _, h⟩
        · cases e
        · exact h
      obtain ⟨hcl1, hcl2⟩ := hcl
      have HSA := Lib.hid (show ∀ W, Below w.heap.size w W → Src W 1 (.slice (some ⟨g, 0, none⟩) k c) k ((l.take k).map intV) from fun W hB => src_ints HW.out rfl hB hk)
      have HSB := Lib.hid (show ∀ W, Below w.heap.size w W → Src W 1 (.slice (some ⟨g, k, none⟩) (l.length - k) (c - k)) (l.length - k) ((l.drop k).map intV) from fun W hB => src_ints2 HW.out rfl hB)
      have hi2 : (k : Int) ≤ (c : Int) := by omega
      have hi3' : (k : Int) ≤ (l.length : Int) := by omega
      have hck : c ≠ k := by omega
      have hc0 : c ≠ 0 := by omega
      clear hcap hlt hxn
      gi_wp2
      refine wpIn_stage (IsSame w (fun _ => False)) [1, 2, 3, 5, 8, 9, 10] [12] hmx (by kernel_rfl) (sameNone _ _) ?_
      change wpStage _ _ _ _ _ _ _ _ (6 + 7) _ _ _
      refine stage_reads [1, 2, 3, 5, 8, 9, 10] 6 _ _ (by kernel_rfl) ?_
      change wpQuietIn _ _ _ _ (fun W => ∃ x : SameAt w (fun _ => False), W = x.W) _ _ _
      simp only [pick_cons, pick_nil, List.getElem?_cons_zero, List.getElem?_cons_succ, Option.elim_some]
      repeat (gi_big_quiet_step (fail))
      refine wpQuietIn_nil ?_
      refine stage_two 0 6 (by kernel_rfl) rfl rfl ?_ ?_
      · gi_wp2
        refine stage_post (sameNone _ _) ?_
        refine stage_two 4 6 (by kernel_rfl) rfl rfl ?_ ?_
        · have ho0 : (w.alloc (.cells #[] 3)).drew.ownsRow w.heap.size 3 1 (.slice (some ⟨w.heap.size, 0, none⟩) 0 0) 0 [] := own_at (Nat.le_refl _) (heap_alloc_new w _)
          have hB0 : Below w.heap.size w (w.alloc (.cells #[] 3)).drew := by go_grown
          have HS1 := Lib.hid (HSA.out _ hB0)
          gi_wp2_with (gi_at_builtin; go_loud (refine wpListIn_append_src _ rfl _ _ 51 rfl w.heap.size 3 i3 (.int .i64 0) 1 8 Tryz.underlying51 hi3 hz30 hz31 hz32 rfl (by decide) (.slice (some ⟨w.heap.size, 0, none⟩) 0 0) 0 [] rfl ho0 _ k ((l.take k).map intV) rfl HS1.out (one_intV _) (by unfold maxLen; omega) (by omega) hB0.size ?_; intro v1 w3 hown2 hgrow3))
          rw [Nat.zero_add, List.nil_append] at hown2
          have hB2 := grow_below hB0 hB0.size ho0 hgrow3
          refine stage_post (sameNone _ _) ?_
          refine stage_one 6 (by kernel_rfl) rfl ?_
          gi_wp2
          have hB3 : Below w.heap.size w (w3.alloc (.cells #[intV n] 3)) := hB2.alloc hB2.size _
          have hown3 := hown2.alloc (.cells #[intV n] 3)
          have h57 : (w3.alloc (.cells #[intV n] 3)).heap[w3.heap.size]? = some (.cells #[intV n] 3 (0, 0)) := heap_alloc_new w3 _
          clear hown2 hgrow3
          generalize w3.alloc (.cells #[intV n] 3) = W3 at *
          have hN3 : w.heap.size ≤ W3.heap.size := hB3.size
          have HN := Lib.hid (src_one h57)
          refine stage_post (sameNone _ _) ?_
          refine stage_one 7 (by kernel_rfl) rfl ?_
          gi_wp2_with (gi_at_builtin; go_loud (refine wpListIn_append_src _ rfl _ _ 51 rfl w.heap.size 3 i3 (.int .i64 0) 1 8 Tryz.underlying51 hi3 hz30 hz31 hz32 rfl (by decide) v1 k _ rfl hown3 _ 1 [intV n] rfl HN.out (one_intV [n]) (by unfold maxLen; omega) (by omega) hN3 ?_; intro v2 w4 hown4 hgrow4))
          have hB4 := grow_below hB3 hN3 hown3 hgrow4
          have hN4 := hB4.size
          have HS2 := Lib.hid (HSB.out w4 hB4)
          refine stage_post (sameNone _ _) ?_
          refine stage_one 11 (by kernel_rfl) rfl ?_
          gi_wp2_with (gi_at_builtin; go_loud (refine wpListIn_append_src _ rfl _ _ 51 rfl w.heap.size 3 i3 (.int .i64 0) 1 8 Tryz.underlying51 hi3 hz30 hz31 hz32 rfl (by decide) v2 (k + 1) _ rfl hown4 _ (l.length - k) ((l.drop k).map intV) rfl HS2.out (one_intV _) (by unfold maxLen; omega) (by omega) hN4 ?_; intro v3 w5 hown5 hgrow5))
          have hB5 := grow_below hB4 hN4 hown4 hgrow5
          have HB5 := Lib.hid hB5
          have HF5 := Lib.hid (ins_fin hk HF.out.1 HF.out.2 HINS.out hbase hown5)
          clear hown5 hgrow5 hB5 hown4 hgrow4 hB4
          refine stage_post (sameNone _ _) ?_
          refine stage_one 12 (by kernel_rfl) rfl ?_
          gi_wp2
          refine stage_last rfl ?_
          refine stage_done (by kernel_rfl) ?_
          gi_wp2
          refine bodyPost_ret (results_tmp rfl _ _ _) rfl ?_
          exact ⟨_, rfl, HF5.out, HB5.out⟩
        · gi_wp2
          refine stage_post (sameNone _ _) ?_
          refine stage_one 4 (by kernel_rfl) rfl ?_
          have ho0 : ((w.alloc (.cells #[] 3)).alloc (.cells #[intV n] 3)).drew.ownsRow w.heap.size 3 1 (.slice (some ⟨w.heap.size, 0, none⟩) 0 0) 0 [] := own_at (Nat.le_refl _) (two_old _ _ _)
          have hB0 : Below w.heap.size w ((w.alloc (.cells #[] 3)).alloc (.cells #[intV n] 3)).drew := by go_grown
          have HS1 := Lib.hid (HSA.out _ hB0)
          gi_wp2_with (gi_at_builtin; go_loud (refine wpListIn_append_src _ rfl _ _ 51 rfl w.heap.size 3 i3 (.int .i64 0) 1 8 Tryz.underlying51 hi3 hz30 hz31 hz32 rfl (by decide) (.slice (some ⟨w.heap.size, 0, none⟩) 0 0) 0 [] rfl ho0 _ k ((l.take k).map intV) rfl HS1.out (one_intV _) (by unfold maxLen; omega) (by omega) hB0.size ?_; intro v1 w3 hown2 hgrow3))
          rw [Nat.zero_add, List.nil_append] at hown2
          have hB3 := grow_below hB0 hB0.size ho0 hgrow3
          have h57 := (hgrow3.block (w.heap.size + 1) (by simp) (by simp [Value.ownBlock])).trans (two_cur w (.cells #[] 3) (.cells #[intV n] 3))
          clear hgrow3
          have hN3 : w.heap.size ≤ w3.heap.size := hB3.size
          have HN := Lib.hid (src_one h57)
          refine stage_post (sameNone _ _) ?_
          refine stage_one 7 (by kernel_rfl) rfl ?_
          gi_wp2_with (gi_at_builtin; go_loud (refine wpListIn_append_src _ rfl _ _ 51 rfl w.heap.size 3 i3 (.int .i64 0) 1 8 Tryz.underlying51 hi3 hz30 hz31 hz32 rfl (by decide) v1 k _ rfl hown2 _ 1 [intV n] rfl HN.out (one_intV [n]) (by unfold maxLen; omega) (by omega) hN3 ?_; intro v2 w4 hown4 hgrow4))
          have hB4 := grow_below hB3 hN3 hown2 hgrow4
          have hN4 := hB4.size
          have HS2 := Lib.hid (HSB.out w4 hB4)
          refine stage_post (sameNone _ _) ?_
          refine stage_one 11 (by kernel_rfl) rfl ?_
          gi_wp2_with (gi_at_builtin; go_loud (refine wpListIn_append_src _ rfl _ _ 51 rfl w.heap.size 3 i3 (.int .i64 0) 1 8 Tryz.underlying51 hi3 hz30 hz31 hz32 rfl (by decide) v2 (k + 1) _ rfl hown4 _ (l.length - k) ((l.drop k).map intV) rfl HS2.out (one_intV _) (by unfold maxLen; omega) (by omega) hN4 ?_; intro v3 w5 hown5 hgrow5))
          have hB5 := grow_below hB4 hN4 hown4 hgrow5
          have HB5 := Lib.hid hB5
          have HF5 := Lib.hid (ins_fin hk HF.out.1 HF.out.2 HINS.out hbase hown5)
          clear hown5 hgrow5 hB5 hown4 hgrow4 hB4
          refine stage_post (sameNone _ _) ?_
          refine stage_one 12 (by kernel_rfl) rfl ?_
          gi_wp2
          refine stage_last rfl ?_
          refine stage_done (by kernel_rfl) ?_
          gi_wp2
          refine bodyPost_ret (results_tmp rfl _ _ _) rfl ?_
          exact ⟨_, rfl, HF5.out, HB5.out⟩
      · gi_wp2
        refine stage_post (sameNone _ _) ?_
        refine stage_one 0 (by kernel_rfl) rfl ?_
        gi_wp2
        refine stage_post (sameNone _ _) ?_
        refine stage_one 4 (by kernel_rfl) rfl ?_
        have ho0 : ((w.alloc (.cells #[intV n] 3)).alloc (.cells #[] 3)).drew.ownsRow w.heap.size 3 1 (.slice (some ⟨w.heap.size + 1, 0, none⟩) 0 0) 0 [] := own_at (Nat.le_succ _) (two_cur _ _ _)
        have hB0 : Below w.heap.size w ((w.alloc (.cells #[intV n] 3)).alloc (.cells #[] 3)).drew := by go_grown
        have HS1 := Lib.hid (HSA.out _ hB0)
        gi_wp2_with (gi_at_builtin; go_loud (refine wpListIn_append_src _ rfl _ _ 51 rfl w.heap.size 3 i3 (.int .i64 0) 1 8 Tryz.underlying51 hi3 hz30 hz31 hz32 rfl (by decide) (.slice (some ⟨w.heap.size + 1, 0, none⟩) 0 0) 0 [] rfl ho0 _ k ((l.take k).map intV) rfl HS1.out (one_intV _) (by unfold maxLen; omega) (by omega) hB0.size ?_; intro v1 w3 hown2 hgrow3))
        rw [Nat.zero_add, List.nil_append] at hown2
        have hB3 := grow_below hB0 hB0.size ho0 hgrow3
        have h57 := (hgrow3.block w.heap.size (by simp; omega) (by simp [Value.ownBlock])).trans (two_old w (.cells #[intV n] 3) (.cells #[] 3))
        clear hgrow3
        have hN3 : w.heap.size ≤ w3.heap.size := hB3.size
        have HN := Lib.hid (src_one h57)
        refine stage_post (sameNone _ _) ?_
        refine stage_one 7 (by kernel_rfl) rfl ?_
        gi_wp2_with (gi_at_builtin; go_loud (refine wpListIn_append_src _ rfl _ _ 51 rfl w.heap.size 3 i3 (.int .i64 0) 1 8 Tryz.underlying51 hi3 hz30 hz31 hz32 rfl (by decide) v1 k _ rfl hown2 _ 1 [intV n] rfl HN.out (one_intV [n]) (by unfold maxLen; omega) (by omega) hN3 ?_; intro v2 w4 hown4 hgrow4))
        have hB4 := grow_below hB3 hN3 hown2 hgrow4
        have hN4 := hB4.size
        have HS2 := Lib.hid (HSB.out w4 hB4)
        refine stage_post (sameNone _ _) ?_
        refine stage_one 11 (by kernel_rfl) rfl ?_
        gi_wp2_with (gi_at_builtin; go_loud (refine wpListIn_append_src _ rfl _ _ 51 rfl w.heap.size 3 i3 (.int .i64 0) 1 8 Tryz.underlying51 hi3 hz30 hz31 hz32 rfl (by decide) v2 (k + 1) _ rfl hown4 _ (l.length - k) ((l.drop k).map intV) rfl HS2.out (one_intV _) (by unfold maxLen; omega) (by omega) hN4 ?_; intro v3 w5 hown5 hgrow5))
        have hB5 := grow_below hB4 hN4 hown4 hgrow5
        have HB5 := Lib.hid hB5
        have HF5 := Lib.hid (ins_fin hk HF.out.1 HF.out.2 HINS.out hbase hown5)
        clear hown5 hgrow5 hB5 hown4 hgrow4 hB4
        refine stage_post (sameNone _ _) ?_
        refine stage_one 12 (by kernel_rfl) rfl ?_
        gi_wp2
        refine stage_last rfl ?_
        refine stage_done (by kernel_rfl) ?_
        gi_wp2
        refine bodyPost_ret (results_tmp rfl _ _ _) rfl ?_
        exact ⟨_, rfl, HF5.out, HB5.out⟩
    · have hkl : k = l.length := by omega
      have HINS := Lib.hid (show ins l n = l.take k ++ n :: l.drop k by rw [ins_at hk HNO.out (fun h => absurd h hlt), if_neg (by rw [List.getElem?_eq_none (by omega)]; simp)])
      have hi1 : ¬ (k : Int) < (l.length : Int) := by omega
      have HD := Lib.hid (show (l.drop k).map intV = [] by rw [List.drop_of_length_le (by omega)]; rfl)
      have HZ := Lib.hid (show l.length - k = 0 by omega)
      rcases hcap with ⟨rfl, rfl, h0⟩ | ⟨g, rfl, hcl1, hcl2⟩
      · have HKZ := Lib.hid (show k = 0 by omega)
        have HSA := Lib.hid (show ∀ W, Below w.heap.size w W → Src W 1 (.slice none k 0) k ((l.take k).map intV) from fun W hB => by rw [HKZ.out]; exact src_zero)
        have HSB := Lib.hid (show ∀ W, Below w.heap.size w W → Src W 1 (.slice none (l.length - k) 0) (l.length - k) ((l.drop k).map intV) from fun W hB => by rw [HD.out, HZ.out]; exact src_zero)
        have hi2 : (k : Int) ≤ ((0 : Nat) : Int) := by omega
        have hi3' : (k : Int) ≤ (l.length : Int) := by omega
        clear hlt hkl h0
        gi_wp2
        refine wpIn_stage (IsSame w (fun _ => False)) [1, 2, 3, 5, 8, 9, 10] [12] hmx (by kernel_rfl) (sameNone _ _) ?_
        change wpStage _ _ _ _ _ _ _ _ (6 + 7) _ _ _
        refine stage_reads [1, 2, 3, 5, 8, 9, 10] 6 _ _ (by kernel_rfl) ?_
        change wpQuietIn _ _ _ _ (fun W => ∃ x : SameAt w (fun _ => False), W = x.W) _ _ _
        simp only [pick_cons, pick_nil, List.getElem?_cons_zero, List.getElem?_cons_succ, Option.elim_some]
        repeat (gi_big_quiet_step (fail))
        refine wpQuietIn_nil ?_
        refine stage_two 0 6 (by kernel_rfl) rfl rfl ?_ ?_
        · gi_wp2
          refine stage_post (sameNone _ _) ?_
          refine stage_two 4 6 (by kernel_rfl) rfl rfl ?_ ?_
          · have ho0 : (w.alloc (.cells #[] 3)).drew.ownsRow w.heap.size 3 1 (.slice (some ⟨w.heap.size, 0, none⟩) 0 0) 0 [] := own_at (Nat.le_refl _) (heap_alloc_new w _)
            have hB0 : Below w.heap.size w (w.alloc (.cells #[] 3)).drew := by go_grown
            have HS1 := Lib.hid (HSA.out _ hB0)
            gi_wp2_with (gi_at_builtin; go_loud (refine wpListIn_append_src _ rfl _ _ 51 rfl w.heap.size 3 i3 (.int .i64 0) 1 8 Tryz.underlying51 hi3 hz30 hz31 hz32 rfl (by decide) (.slice (some ⟨w.heap.size, 0, none⟩) 0 0) 0 [] rfl ho0 _ k ((l.take k).map intV) rfl HS1.out (one_intV _) (by unfold maxLen; omega) (by omega) hB0.size ?_; intro v1 w3 hown2 hgrow3))
            rw [Nat.zero_add, List.nil_append] at hown2
            have hB2 := grow_below hB0 hB0.size ho0 hgrow3
            refine stage_post (sameNone _ _) ?_
            refine stage_one 6 (by kernel_rfl) rfl ?_
            gi_wp2
            have hB3 : Below w.heap.size w (w3.alloc (.cells #[intV n] 3)) := hB2.alloc hB2.size _
            have hown3 := hown2.alloc (.cells #[intV n] 3)
            have h57 : (w3.alloc (.cells #[intV n] 3)).heap[w3.heap.size]? = some (.cells #[intV n] 3 (0, 0)) := heap_alloc_new w3 _
            clear hown2 hgrow3
            generalize w3.alloc (.cells #[intV n] 3) = W3 at *
            have hN3 : w.heap.size ≤ W3.heap.size := hB3.size
            have HN := Lib.hid (src_one h57)
            refine stage_post (sameNone _ _) ?_
            refine stage_one 7 (by kernel_rfl) rfl ?_
            gi_wp2_with (gi_at_builtin; go_loud (refine wpListIn_append_src _ rfl _ _ 51 rfl w.heap.size 3 i3 (.int .i64 0) 1 8 Tryz.underlying51 hi3 hz30 hz31 hz32 rfl (by decide) v1 k _ rfl hown3 _ 1 [intV n] rfl HN.out (one_intV [n]) (by unfold maxLen; omega) (by omega) hN3 ?_; intro v2 w4 hown4 hgrow4))
            have hB4 := grow_below hB3 hN3 hown3 hgrow4
            have hN4 := hB4.size
            have HS2 := Lib.hid (HSB.out w4 hB4)
            refine stage_post (sameNone _ _) ?_
            refine stage_one 11 (by kernel_rfl) rfl ?_
            gi_wp2_with (gi_at_builtin; go_loud (refine wpListIn_append_src _ rfl _ _ 51 rfl w.heap.size 3 i3 (.int .i64 0) 1 8 Tryz.underlying51 hi3 hz30 hz31 hz32 rfl (by decide) v2 (k + 1) _ rfl hown4 _ (l.length - k) ((l.drop k).map intV) rfl HS2.out (one_intV _) (by unfold maxLen; omega) (by omega) hN4 ?_; intro v3 w5 hown5 hgrow5))
            have hB5 := grow_below hB4 hN4 hown4 hgrow5
            have HB5 := Lib.hid hB5
            have HF5 := Lib.hid (ins_fin hk HF.out.1 HF.out.2 HINS.out hbase hown5)
            clear hown5 hgrow5 hB5 hown4 hgrow4 hB4
            refine stage_post (sameNone _ _) ?_
            refine stage_one 12 (by kernel_rfl) rfl ?_
            gi_wp2
            refine stage_last rfl ?_
            refine stage_done (by kernel_rfl) ?_
            gi_wp2
            refine bodyPost_ret (results_tmp rfl _ _ _) rfl ?_
            exact ⟨_, rfl, HF5.out, HB5.out⟩
          · gi_wp2
            refine stage_post (sameNone _ _) ?_
            refine stage_one 4 (by kernel_rfl) rfl ?_
            have ho0 : ((w.alloc (.cells #[] 3)).alloc (.cells #[intV n] 3)).drew.ownsRow w.heap.size 3 1 (.slice (some ⟨w.heap.size, 0, none⟩) 0 0) 0 [] := own_at (Nat.le_refl _) (two_old _ _ _)
            have hB0 : Below w.heap.size w ((w.alloc (.cells #[] 3)).alloc (.cells #[intV n] 3)).drew := by go_grown
            have HS1 := Lib.hid (HSA.out _ hB0)
            gi_wp2_with (gi_at_builtin; go_loud (refine wpListIn_append_src _ rfl _ _ 51 rfl w.heap.size 3 i3 (.int .i64 0) 1 8 Tryz.underlying51 hi3 hz30 hz31 hz32 rfl (by decide) (.slice (some ⟨w.heap.size, 0, none⟩) 0 0) 0 [] rfl ho0 _ k ((l.take k).map intV) rfl HS1.out (one_intV _) (by unfold maxLen; omega) (by omega) hB0.size ?_; intro v1 w3 hown2 hgrow3))
            rw [Nat.zero_add, List.nil_append] at hown2
            have hB3 := grow_below hB0 hB0.size ho0 hgrow3
            have h57 := (hgrow3.block (w.heap.size + 1) (by simp) (by simp [Value.ownBlock])).trans (two_cur w (.cells #[] 3) (.cells #[intV n] 3))
            clear hgrow3
            have hN3 : w.heap.size ≤ w3.heap.size := hB3.size
            have HN := Lib.hid (src_one h57)
            refine stage_post (sameNone _ _) ?_
            refine stage_one 7 (by kernel_rfl) rfl ?_
            gi_wp2_with (gi_at_builtin; go_loud (refine wpListIn_append_src _ rfl _ _ 51 rfl w.heap.size 3 i3 (.int .i64 0) 1 8 Tryz.underlying51 hi3 hz30 hz31 hz32 rfl (by decide) v1 k _ rfl hown2 _ 1 [intV n] rfl HN.out (one_intV [n]) (by unfold maxLen; omega) (by omega) hN3 ?_; intro v2 w4 hown4 hgrow4))
            have hB4 := grow_below hB3 hN3 hown2 hgrow4
            have hN4 := hB4.size
            have HS2 := Lib.hid (HSB.out w4 hB4)
            refine stage_post (sameNone _ _) ?_
            refine stage_one 11 (by kernel_rfl) rfl ?_
            gi_wp2_with (gi_at_builtin; go_loud (refine wpListIn_append_src _ rfl _ _ 51 rfl w.heap.size 3 i3 (.int .i64 0) 1 8 Tryz.underlying51 hi3 hz30 hz31 hz32 rfl (by decide) v2 (k + 1) _ rfl hown4 _ (l.length - k) ((l.drop k).map intV) rfl HS2.out (one_intV _) (by unfold maxLen; omega) (by omega) hN4 ?_; intro v3 w5 hown5 hgrow5))
            have hB5 := grow_below hB4 hN4 hown4 hgrow5
            have HB5 := Lib.hid hB5
            have HF5 := Lib.hid (ins_fin hk HF.out.1 HF.out.2 HINS.out hbase hown5)
            clear hown5 hgrow5 hB5 hown4 hgrow4 hB4
            refine stage_post (sameNone _ _) ?_
            refine stage_one 12 (by kernel_rfl) rfl ?_
            gi_wp2
            refine stage_last rfl ?_
            refine stage_done (by kernel_rfl) ?_
            gi_wp2
            refine bodyPost_ret (results_tmp rfl _ _ _) rfl ?_
            exact ⟨_, rfl, HF5.out, HB5.out⟩
        · gi_wp2
          refine stage_post (sameNone _ _) ?_
          refine stage_one 0 (by kernel_rfl) rfl ?_
          gi_wp2
          refine stage_post (sameNone _ _) ?_
          refine stage_one 4 (by kernel_rfl) rfl ?_
          have ho0 : ((w.alloc (.cells #[intV n] 3)).alloc (.cells #[] 3)).drew.ownsRow w.heap.size 3 1 (.slice (some ⟨w.heap.size + 1, 0, none⟩) 0 0) 0 [] := own_at (Nat.le_succ _) (two_cur _ _ _)
          have hB0 : Below w.heap.size w ((w.alloc (.cells #[intV n] 3)).alloc (.cells #[] 3)).drew := by go_grown
          have HS1 := Lib.hid (HSA.out _ hB0)
          gi_wp2_with (gi_at_builtin; go_loud (refine wpListIn_append_src _ rfl _ _ 51 rfl w.heap.size 3 i3 (.int .i64 0) 1 8 Tryz.underlying51 hi3 hz30 hz31 hz32 rfl (by decide) (.slice (some ⟨w.heap.size + 1, 0, none⟩) 0 0) 0 [] rfl ho0 _ k ((l.take k).map intV) rfl HS1.out (one_intV _) (by unfold maxLen; omega) (by omega) hB0.size ?_; intro v1 w3 hown2 hgrow3))
          rw [Nat.zero_add, List.nil_append] at hown2
          have hB3 := grow_below hB0 hB0.size ho0 hgrow3
          have h57 := (hgrow3.block w.heap.size (by simp; omega) (by simp [Value.ownBlock])).trans (two_old w (.cells #[intV n] 3) (.cells #[] 3))
          clear hgrow3
          have hN3 : w.heap.size ≤ w3.heap.size := hB3.size
          have HN := Lib.hid (src_one h57)
          refine stage_post (sameNone _ _) ?_
          refine stage_one 7 (by kernel_rfl) rfl ?_
          gi_wp2_with (gi_at_builtin; go_loud (refine wpListIn_append_src _ rfl _ _ 51 rfl w.heap.size 3 i3 (.int .i64 0) 1 8 Tryz.underlying51 hi3 hz30 hz31 hz32 rfl (by decide) v1 k _ rfl hown2 _ 1 [intV n] rfl HN.out (one_intV [n]) (by unfold maxLen; omega) (by omega) hN3 ?_; intro v2 w4 hown4 hgrow4))
          have hB4 := grow_below hB3 hN3 hown2 hgrow4
          have hN4 := hB4.size
          have HS2 := Lib.hid (HSB.out w4 hB4)
          refine stage_post (sameNone _ _) ?_
          refine stage_one 11 (by kernel_rfl) rfl ?_
          gi_wp2_with (gi_at_builtin; go_loud (refine wpListIn_append_src _ rfl _ _ 51 rfl w.heap.size 3 i3 (.int .i64 0) 1 8 Tryz.underlying51 hi3 hz30 hz31 hz32 rfl (by decide) v2 (k + 1) _ rfl hown4 _ (l.length - k) ((l.drop k).map intV) rfl HS2.out (one_intV _) (by unfold maxLen; omega) (by omega) hN4 ?_; intro v3 w5 hown5 hgrow5))
          have hB5 := grow_below hB4 hN4 hown4 hgrow5
          have HB5 := Lib.hid hB5
          have HF5 := Lib.hid (ins_fin hk HF.out.1 HF.out.2 HINS.out hbase hown5)
          clear hown5 hgrow5 hB5 hown4 hgrow4 hB4
          refine stage_post (sameNone _ _) ?_
          refine stage_one 12 (by kernel_rfl) rfl ?_
          gi_wp2
          refine stage_last rfl ?_
          refine stage_done (by kernel_rfl) ?_
          gi_wp2
          refine bodyPost_ret (results_tmp rfl _ _ _) rfl ?_
          exact ⟨_, rfl, HF5.out, HB5.out⟩
      · have HSA := Lib.hid (show ∀ W, Below w.heap.size w W → Src W 1 (.slice (some ⟨g, 0, none⟩) k c) k ((l.take k).map intV) from fun W hB => src_ints HW.out rfl hB hk)
        have hi2 : (k : Int) ≤ (c : Int) := by omega
        have hi3' : (k : Int) ≤ (l.length : Int) := by omega
        by_cases hck : c = k
        · have HSB := Lib.hid (show ∀ W, Below w.heap.size w W → Src W 1 (.slice (some ⟨g, 0, none⟩) 0 0) 0 [] from fun W hB => src_zero)
          have hck2 := hck.symm
          clear hck
          subst hck2
          clear hlt hkl
          gi_wp2
          refine wpIn_stage (IsSame w (fun _ => False)) [1, 2, 3, 5, 8, 9, 10] [12] hmx (by kernel_rfl) (sameNone _ _) ?_
          change wpStage _ _ _ _ _ _ _ _ (6 + 7) _ _ _
          refine stage_reads [1, 2, 3, 5, 8, 9, 10] 6 _ _ (by kernel_rfl) ?_
          change wpQuietIn _ _ _ _ (fun W => ∃ x : SameAt w (fun _ => False), W = x.W) _ _ _
          simp only [pick_cons, pick_nil, List.getElem?_cons_zero, List.getElem?_cons_succ, Option.elim_some]
          repeat (gi_big_quiet_step (fail))
          refine wpQuietIn_nil ?_
          refine stage_two 0 6 (by kernel_rfl) rfl rfl ?_ ?_
          · gi_wp2
            refine stage_post (sameNone _ _) ?_
            refine stage_two 4 6 (by kernel_rfl) rfl rfl ?_ ?_
            · have ho0 : (w.alloc (.cells #[] 3)).drew.ownsRow w.heap.size 3 1 (.slice (some ⟨w.heap.size, 0, none⟩) 0 0) 0 [] := own_at (Nat.le_refl _) (heap_alloc_new w _)
              have hB0 : Below w.heap.size w (w.alloc (.cells #[] 3)).drew := by go_grown
              have HS1 := Lib.hid (HSA.out _ hB0)
              gi_wp2_with (gi_at_builtin; go_loud (refine wpListIn_append_src _ rfl _ _ 51 rfl w.heap.size 3 i3 (.int .i64 0) 1 8 Tryz.underlying51 hi3 hz30 hz31 hz32 rfl (by decide) (.slice (some ⟨w.heap.size, 0, none⟩) 0 0) 0 [] rfl ho0 _ k ((l.take k).map intV) rfl HS1.out (one_intV _) (by unfold maxLen; omega) (by omega) hB0.size ?_; intro v1 w3 hown2 hgrow3))
              rw [Nat.zero_add, List.nil_append] at hown2
              have hB2 := grow_below hB0 hB0.size ho0 hgrow3
              refine stage_post (sameNone _ _) ?_
              refine stage_one 6 (by kernel_rfl) rfl ?_
              gi_wp2
              have hB3 : Below w.heap.size w (w3.alloc (.cells #[intV n] 3)) := hB2.alloc hB2.size _
              have hown3 := hown2.alloc (.cells #[intV n] 3)
              have h57 : (w3.alloc (.cells #[intV n] 3)).heap[w3.heap.size]? = some (.cells #[intV n] 3 (0, 0)) := heap_alloc_new w3 _
              clear hown2 hgrow3
              generalize w3.alloc (.cells #[intV n] 3) = W3 at *
              have hN3 : w.heap.size ≤ W3.heap.size := hB3.size
              have HN := Lib.hid (src_one h57)
              refine stage_post (sameNone _ _) ?_
              refine stage_one 7 (by kernel_rfl) rfl ?_
              gi_wp2_with (gi_at_builtin; go_loud (refine wpListIn_append_src _ rfl _ _ 51 rfl w.heap.size 3 i3 (.int .i64 0) 1 8 Tryz.underlying51 hi3 hz30 hz31 hz32 rfl (by decide) v1 k _ rfl hown3 _ 1 [intV n] rfl HN.out (one_intV [n]) (by unfold maxLen; omega) (by omega) hN3 ?_; intro v2 w4 hown4 hgrow4))
              have hB4 := grow_below hB3 hN3 hown3 hgrow4
              have hN4 := hB4.size
              have HS2 := Lib.hid (HSB.out w4 hB4)
              refine stage_post (sameNone _ _) ?_
              refine stage_one 11 (by kernel_rfl) rfl ?_
              gi_wp2_with (gi_at_builtin; go_loud (refine wpListIn_append_src _ rfl _ _ 51 rfl w.heap.size 3 i3 (.int .i64 0) 1 8 Tryz.underlying51 hi3 hz30 hz31 hz32 rfl (by decide) v2 (k + 1) _ rfl hown4 _ 0 [] rfl HS2.out (one_intV []) (by unfold maxLen; omega) (by omega) hN4 ?_; intro v3 w5 hown5 hgrow5))
              have hB5 := grow_below hB4 hN4 hown4 hgrow5
              have HB5 := Lib.hid hB5
              have HF5 := Lib.hid (ins_fin hk HF.out.1 HF.out.2 HINS.out hbase (by rw [HZ.out, HD.out]; exact hown5))
              clear hown5 hgrow5 hB5 hown4 hgrow4 hB4
              refine stage_post (sameNone _ _) ?_
              refine stage_one 12 (by kernel_rfl) rfl ?_
              gi_wp2
              refine stage_last rfl ?_
              refine stage_done (by kernel_rfl) ?_
              gi_wp2
              refine bodyPost_ret (results_tmp rfl _ _ _) rfl ?_
              exact ⟨_, rfl, HF5.out, HB5.out⟩
            · gi_wp2
              refine stage_post (sameNone _ _) ?_
              refine stage_one 4 (by kernel_rfl) rfl ?_
              have ho0 : ((w.alloc (.cells #[] 3)).alloc (.cells #[intV n] 3)).drew.ownsRow w.heap.size 3 1 (.slice (some ⟨w.heap.size, 0, none⟩) 0 0) 0 [] := own_at (Nat.le_refl _) (two_old _ _ _)
              have hB0 : Below w.heap.size w ((w.alloc (.cells #[] 3)).alloc (.cells #[intV n] 3)).drew := by go_grown
              have HS1 := Lib.hid (HSA.out _ hB0)
              gi_wp2_with (gi_at_builtin; go_loud (refine wpListIn_append_src _ rfl _ _ 51 rfl w.heap.size 3 i3 (.int .i64 0) 1 8 Tryz.underlying51 hi3 hz30 hz31 hz32 rfl (by decide) (.slice (some ⟨w.heap.size, 0, none⟩) 0 0) 0 [] rfl ho0 _ k ((l.take k).map intV) rfl HS1.out (one_intV _) (by unfold maxLen; omega) (by omega) hB0.size ?_; intro v1 w3 hown2 hgrow3))
              rw [Nat.zero_add, List.nil_append] at hown2
              have hB3 := grow_below hB0 hB0.size ho0 hgrow3
              have h57 := (hgrow3.block (w.heap.size + 1) (by simp) (by simp [Value.ownBlock])).trans (two_cur w (.cells #[] 3) (.cells #[intV n] 3))
              clear hgrow3
              have hN3 : w.heap.size ≤ w3.heap.size := hB3.size
              have HN := Lib.hid (src_one h57)
              refine stage_post (sameNone _ _) ?_
              refine stage_one 7 (by kernel_rfl) rfl ?_
              gi_wp2_with (gi_at_builtin; go_loud (refine wpListIn_append_src _ rfl _ _ 51 rfl w.heap.size 3 i3 (.int .i64 0) 1 8 Tryz.underlying51 hi3 hz30 hz31 hz32 rfl (by decide) v1 k _ rfl hown2 _ 1 [intV n] rfl HN.out (one_intV [n]) (by unfold maxLen; omega) (by omega) hN3 ?_; intro v2 w4 hown4 hgrow4))
              have hB4 := grow_below hB3 hN3 hown2 hgrow4
              have hN4 := hB4.size
              have HS2 := Lib.hid (HSB.out w4 hB4)
              refine stage_post (sameNone _ _) ?_
              refine stage_one 11 (by kernel_rfl) rfl ?_
              gi_wp2_with (gi_at_builtin; go_loud (refine wpListIn_append_src _ rfl _ _ 51 rfl w.heap.size 3 i3 (.int .i64 0) 1 8 Tryz.underlying51 hi3 hz30 hz31 hz32 rfl (by decide) v2 (k + 1) _ rfl hown4 _ 0 [] rfl HS2.out (one_intV []) (by unfold maxLen; omega) (by omega) hN4 ?_; intro v3 w5 hown5 hgrow5))
              have hB5 := grow_below hB4 hN4 hown4 hgrow5
              have HB5 := Lib.hid hB5
              have HF5 := Lib.hid (ins_fin hk HF.out.1 HF.out.2 HINS.out hbase (by rw [HZ.out, HD.out]; exact hown5))
              clear hown5 hgrow5 hB5 hown4 hgrow4 hB4
              refine stage_post (sameNone _ _) ?_
              refine stage_one 12 (by kernel_rfl) rfl ?_
              gi_wp2
              refine stage_last rfl ?_
              refine stage_done (by kernel_rfl) ?_
              gi_wp2
              refine bodyPost_ret (results_tmp rfl _ _ _) rfl ?_
              exact ⟨_, rfl, HF5.out, HB5.out⟩
          · gi_wp2
            refine stage_post (sameNone _ _) ?_
            refine stage_one 0 (by kernel_rfl) rfl ?_
            gi_wp2
            refine stage_post (sameNone _ _) ?_
            refine stage_one 4 (by kernel_rfl) rfl ?_
            have ho0 : ((w.alloc (.cells #[intV n] 3)).alloc (.cells #[] 3)).drew.ownsRow w.heap.size 3 1 (.slice (some ⟨w.heap.size + 1, 0, none⟩) 0 0) 0 [] := own_at (Nat.le_succ _) (two_cur _ _ _)
            have hB0 : Below w.heap.size w ((w.alloc (.cells #[intV n] 3)).alloc (.cells #[] 3)).drew := by go_grown
            have HS1 := Lib.hid (HSA.out _ hB0)
            gi_wp2_with (gi_at_builtin; go_loud (refine wpListIn_append_src _ rfl _ _ 51 rfl w.heap.size 3 i3 (.int .i64 0) 1 8 Tryz.underlying51 hi3 hz30 hz31 hz32 rfl (by decide) (.slice (some ⟨w.heap.size + 1, 0, none⟩) 0 0) 0 [] rfl ho0 _ k ((l.take k).map intV) rfl HS1.out (one_intV _) (by unfold maxLen; omega) (by omega) hB0.size ?_; intro v1 w3 hown2 hgrow3))
            rw [Nat.zero_add, List.nil_append] at hown2
            have hB3 := grow_below hB0 hB0.size ho0 hgrow3
            have h57 := (hgrow3.block w.heap.size (by simp; omega) (by simp [Value.ownBlock])).trans (two_old w (.cells #[intV n] 3) (.cells #[] 3))
            clear hgrow3
            have hN3 : w.heap.size ≤ w3.heap.size := hB3.size
            have HN := Lib.hid (src_one h57)
            refine stage_post (sameNone _ _) ?_
            refine stage_one 7 (by kernel_rfl) rfl ?_
            gi_wp2_with (gi_at_builtin; go_loud (refine wpListIn_append_src _ rfl _ _ 51 rfl w.heap.size 3 i3 (.int .i64 0) 1 8 Tryz.underlying51 hi3 hz30 hz31 hz32 rfl (by decide) v1 k _ rfl hown2 _ 1 [intV n] rfl HN.out (one_intV [n]) (by unfold maxLen; omega) (by omega) hN3 ?_; intro v2 w4 hown4 hgrow4))
            have hB4 := grow_below hB3 hN3 hown2 hgrow4
            have hN4 := hB4.size
            have HS2 := Lib.hid (HSB.out w4 hB4)
            refine stage_post (sameNone _ _) ?_
            refine stage_one 11 (by kernel_rfl) rfl ?_
            gi_wp2_with (gi_at_builtin; go_loud (refine wpListIn_append_src _ rfl _ _ 51 rfl w.heap.size 3 i3 (.int .i64 0) 1 8 Tryz.underlying51 hi3 hz30 hz31 hz32 rfl (by decide) v2 (k + 1) _ rfl hown4 _ 0 [] rfl HS2.out (one_intV []) (by unfold maxLen; omega) (by omega) hN4 ?_; intro v3 w5 hown5 hgrow5))
            have hB5 := grow_below hB4 hN4 hown4 hgrow5
            have HB5 := Lib.hid hB5
            have HF5 := Lib.hid (ins_fin hk HF.out.1 HF.out.2 HINS.out hbase (by rw [HZ.out, HD.out]; exact hown5))
            clear hown5 hgrow5 hB5 hown4 hgrow4 hB4
            refine stage_post (sameNone _ _) ?_
            refine stage_one 12 (by kernel_rfl) rfl ?_
            gi_wp2
            refine stage_last rfl ?_
            refine stage_done (by kernel_rfl) ?_
            gi_wp2
            refine bodyPost_ret (results_tmp rfl _ _ _) rfl ?_
            exact ⟨_, rfl, HF5.out, HB5.out⟩
        · have HSB := Lib.hid (show ∀ W, Below w.heap.size w W → Src W 1 (.slice (some ⟨g, k, none⟩) (l.length - k) (c - k)) (l.length - k) ((l.drop k).map intV) from fun W hB => by rw [HD.out, HZ.out]; exact src_zero)
          have hc0 : c ≠ 0 := by omega
          clear hlt hkl
          gi_wp2
          refine wpIn_stage (IsSame w (fun _ => False)) [1, 2, 3, 5, 8, 9, 10] [12] hmx (by kernel_rfl) (sameNone _ _) ?_
          change wpStage _ _ _ _ _ _ _ _ (6 + 7) _ _ _
          refine stage_reads [1, 2, 3, 5, 8, 9, 10] 6 _ _ (by kernel_rfl) ?_
          change wpQuietIn _ _ _ _ (fun W => ∃ x : SameAt w (fun _ => False), W = x.W) _ _ _
          simp only [pick_cons, pick_nil, List.getElem?_cons_zero, List.getElem?_cons_succ, Option.elim_some]
          repeat (gi_big_quiet_step (fail))
          refine wpQuietIn_nil ?_
          refine stage_two 0 6 (by kernel_rfl) rfl rfl ?_ ?_
          · gi_wp2
            refine stage_post (sameNone _ _) ?_
            refine stage_two 4 6 (by kernel_rfl) rfl rfl ?_ ?_
            · have ho0 : (w.alloc (.cells #[] 3)).drew.ownsRow w.heap.size 3 1 (.slice (some ⟨w.heap.size, 0, none⟩) 0 0) 0 [] := own_at (Nat.le_refl _) (heap_alloc_new w _)
              have hB0 : Below w.heap.size w (w.alloc (.cells #[] 3)).drew := by go_grown
              have HS1 := Lib.hid (HSA.out _ hB0)
              gi_wp2_with (gi_at_builtin; go_loud (refine wpListIn_append_src _ rfl _ _ 51 rfl w.heap.size 3 i3 (.int .i64 0) 1 8 Tryz.underlying51 hi3 hz30 hz31 hz32 rfl (by decide) (.slice (some ⟨w.heap.size, 0, none⟩) 0 0) 0 [] rfl ho0 _ k ((l.take k).map intV) rfl HS1.out (one_intV _) (by unfold maxLen; omega) (by omega) hB0.size ?_; intro v1 w3 hown2 hgrow3))
              rw [Nat.zero_add, List.nil_append] at hown2
              have hB2 := grow_below hB0 hB0.size ho0 hgrow3
              refine stage_post (sameNone _ _) ?_
              refine stage_one 6 (by kernel_rfl) rfl ?_
              gi_wp2
              have hB3 : Below w.heap.size w (w3.alloc (.cells #[intV n] 3)) := hB2.alloc hB2.size _
              have hown3 := hown2.alloc (.cells #[intV n] 3)
              have h57 : (w3.alloc (.cells #[intV n] 3)).heap[w3.heap.size]? = some (.cells #[intV n] 3 (0, 0)) := heap_alloc_new w3 _
              clear hown2 hgrow3
              generalize w3.alloc (.cells #[intV n] 3) = W3 at *
              have hN3 : w.heap.size ≤ W3.heap.size := hB3.size
              have HN := Lib.hid (src_one h57)
              refine stage_post (sameNone _ _) ?_
              refine stage_one 7 (by kernel_rfl) rfl ?_
              gi_wp2_with (gi_at_builtin; go_loud (refine wpListIn_append_src _ rfl _ _ 51 rfl w.heap.size 3 i3 (.int .i64 0) 1 8 Tryz.underlying51 hi3 hz30 hz31 hz32 rfl (by decide) v1 k _ rfl hown3 _ 1 [intV n] rfl HN.out (one_intV [n]) (by unfold maxLen; omega) (by omega) hN3 ?_; intro v2 w4 hown4 hgrow4))
              have hB4 := grow_below hB3 hN3 hown3 hgrow4
              have hN4 := hB4.size
              have HS2 := Lib.hid (HSB.out w4 hB4)
              refine stage_post (sameNone _ _) ?_
              refine stage_one 11 (by kernel_rfl) rfl ?_
              gi_wp2_with (gi_at_builtin; go_loud (refine wpListIn_append_src _ rfl _ _ 51 rfl w.heap.size 3 i3 (.int .i64 0) 1 8 Tryz.underlying51 hi3 hz30 hz31 hz32 rfl (by decide) v2 (k + 1) _ rfl hown4 _ (l.length - k) ((l.drop k).map intV) rfl HS2.out (one_intV _) (by unfold maxLen; omega) (by omega) hN4 ?_; intro v3 w5 hown5 hgrow5))
              have hB5 := grow_below hB4 hN4 hown4 hgrow5
              have HB5 := Lib.hid hB5
              have HF5 := Lib.hid (ins_fin hk HF.out.1 HF.out.2 HINS.out hbase hown5)
              clear hown5 hgrow5 hB5 hown4 hgrow4 hB4
              refine stage_post (sameNone _ _) ?_
              refine stage_one 12 (by kernel_rfl) rfl ?_
              gi_wp2
              refine stage_last rfl ?_
              refine stage_done (by kernel_rfl) ?_
              gi_wp2
              refine bodyPost_ret (results_tmp rfl _ _ _) rfl ?_
              exact ⟨_, rfl, HF5.out, HB5.out⟩
            · gi_wp2
              refine stage_post (sameNone _ _) ?_
              refine stage_one 4 (by kernel_rfl) rfl ?_
              have ho0 : ((w.alloc (.cells #[] 3)).alloc (.cells #[intV n] 3)).drew.ownsRow w.heap.size 3 1 (.slice (some ⟨w.heap.size, 0, none⟩) 0 0) 0 [] := own_at (Nat.le_refl _) (two_old _ _ _)
              have hB0 : Below w.heap.size w ((w.alloc (.cells #[] 3)).alloc (.cells #[intV n] 3)).drew := by go_grown
              have HS1 := Lib.hid (HSA.out _ hB0)
              gi_wp2_with (gi_at_builtin; go_loud (refine wpListIn_append_src _ rfl _ _ 51 rfl w.heap.size 3 i3 (.int .i64 0) 1 8 Tryz.underlying51 hi3 hz30 hz31 hz32 rfl (by decide) (.slice (some ⟨w.heap.size, 0, none⟩) 0 0) 0 [] rfl ho0 _ k ((l.take k).map intV) rfl HS1.out (one_intV _) (by unfold maxLen; omega) (by omega) hB0.size ?_; intro v1 w3 hown2 hgrow3))
              rw [Nat.zero_add, List.nil_append] at hown2
              have hB3 := grow_below hB0 hB0.size ho0 hgrow3
              have h57 := (hgrow3.block (w.heap.size + 1) (by simp) (by simp [Value.ownBlock])).trans (two_cur w (.cells #[] 3) (.cells #[intV n] 3))
              clear hgrow3
              have hN3 : w.heap.size ≤ w3.heap.size := hB3.size
              have HN := Lib.hid (src_one h57)
              refine stage_post (sameNone _ _) ?_
              refine stage_one 7 (by kernel_rfl) rfl ?_
              gi_wp2_with (gi_at_builtin; go_loud (refine wpListIn_append_src _ rfl _ _ 51 rfl w.heap.size 3 i3 (.int .i64 0) 1 8 Tryz.underlying51 hi3 hz30 hz31 hz32 rfl (by decide) v1 k _ rfl hown2 _ 1 [intV n] rfl HN.out (one_intV [n]) (by unfold maxLen; omega) (by omega) hN3 ?_; intro v2 w4 hown4 hgrow4))
              have hB4 := grow_below hB3 hN3 hown2 hgrow4
              have hN4 := hB4.size
              have HS2 := Lib.hid (HSB.out w4 hB4)
              refine stage_post (sameNone _ _) ?_
              refine stage_one 11 (by kernel_rfl) rfl ?_
              gi_wp2_with (gi_at_builtin; go_loud (refine wpListIn_append_src _ rfl _ _ 51 rfl w.heap.size 3 i3 (.int .i64 0) 1 8 Tryz.underlying51 hi3 hz30 hz31 hz32 rfl (by decide) v2 (k + 1) _ rfl hown4 _ (l.length - k) ((l.drop k).map intV) rfl HS2.out (one_intV _) (by unfold maxLen; omega) (by omega) hN4 ?_; intro v3 w5 hown5 hgrow5))
              have hB5 := grow_below hB4 hN4 hown4 hgrow5
              have HB5 := Lib.hid hB5
              have HF5 := Lib.hid (ins_fin hk HF.out.1 HF.out.2 HINS.out hbase hown5)
              clear hown5 hgrow5 hB5 hown4 hgrow4 hB4
              refine stage_post (sameNone _ _) ?_
              refine stage_one 12 (by kernel_rfl) rfl ?_
              gi_wp2
              refine stage_last rfl ?_
              refine stage_done (by kernel_rfl) ?_
              gi_wp2
              refine bodyPost_ret (results_tmp rfl _ _ _) rfl ?_
              exact ⟨_, rfl, HF5.out, HB5.out⟩
          · gi_wp2
            refine stage_post (sameNone _ _) ?_
            refine stage_one 0 (by kernel_rfl) rfl ?_
            gi_wp2
            refine stage_post (sameNone _ _) ?_
            refine stage_one 4 (by kernel_rfl) rfl ?_
            have ho0 : ((w.alloc (.cells #[intV n] 3)).alloc (.cells #[] 3)).drew.ownsRow w.heap.size 3 1 (.slice (some ⟨w.heap.size + 1, 0, none⟩) 0 0) 0 [] := own_at (Nat.le_succ _) (two_cur _ _ _)
            have hB0 : Below w.heap.size w ((w.alloc (.cells #[intV n] 3)).alloc (.cells #[] 3)).drew := by go_grown
            have HS1 := Lib.hid (HSA.out _ hB0)
            gi_wp2_with (gi_at_builtin; go_loud (refine wpListIn_append_src _ rfl _ _ 51 rfl w.heap.size 3 i3 (.int .i64 0) 1 8 Tryz.underlying51 hi3 hz30 hz31 hz32 rfl (by decide) (.slice (some ⟨w.heap.size + 1, 0, none⟩) 0 0) 0 [] rfl ho0 _ k ((l.take k).map intV) rfl HS1.out (one_intV _) (by unfold maxLen; omega) (by omega) hB0.size ?_; intro v1 w3 hown2 hgrow3))
            rw [Nat.zero_add, List.nil_append] at hown2
            have hB3 := grow_below hB0 hB0.size ho0 hgrow3
            have h57 := (hgrow3.block w.heap.size (by simp; omega) (by simp [Value.ownBlock])).trans (two_old w (.cells #[intV n] 3) (.cells #[] 3))
            clear hgrow3
            have hN3 : w.heap.size ≤ w3.heap.size := hB3.size
            have HN := Lib.hid (src_one h57)
            refine stage_post (sameNone _ _) ?_
            refine stage_one 7 (by kernel_rfl) rfl ?_
            gi_wp2_with (gi_at_builtin; go_loud (refine wpListIn_append_src _ rfl _ _ 51 rfl w.heap.size 3 i3 (.int .i64 0) 1 8 Tryz.underlying51 hi3 hz30 hz31 hz32 rfl (by decide) v1 k _ rfl hown2 _ 1 [intV n] rfl HN.out (one_intV [n]) (by unfold maxLen; omega) (by omega) hN3 ?_; intro v2 w4 hown4 hgrow4))
            have hB4 := grow_below hB3 hN3 hown2 hgrow4
            have hN4 := hB4.size
            have HS2 := Lib.hid (HSB.out w4 hB4)
            refine stage_post (sameNone _ _) ?_
            refine stage_one 11 (by kernel_rfl) rfl ?_
            gi_wp2_with (gi_at_builtin; go_loud (refine wpListIn_append_src _ rfl _ _ 51 rfl w.heap.size 3 i3 (.int .i64 0) 1 8 Tryz.underlying51 hi3 hz30 hz31 hz32 rfl (by decide) v2 (k + 1) _ rfl hown4 _ (l.length - k) ((l.drop k).map intV) rfl HS2.out (one_intV _) (by unfold maxLen; omega) (by omega) hN4 ?_; intro v3 w5 hown5 hgrow5))
            have hB5 := grow_below hB4 hN4 hown4 hgrow5
            have HB5 := Lib.hid hB5
            have HF5 := Lib.hid (ins_fin hk HF.out.1 HF.out.2 HINS.out hbase hown5)
            clear hown5 hgrow5 hB5 hown4 hgrow4 hB4
            refine stage_post (sameNone _ _) ?_
            refine stage_one 12 (by kernel_rfl) rfl ?_
            gi_wp2
            refine stage_last rfl ?_
            refine stage_done (by kernel_rfl) ?_
            gi_wp2
            refine bodyPost_ret (results_tmp rfl _ _ _) rfl ?_
            exact ⟨_, rfl, HF5.out, HB5.out⟩
end Go.Proofs.YtlocafmglficnaaGreatDoor
