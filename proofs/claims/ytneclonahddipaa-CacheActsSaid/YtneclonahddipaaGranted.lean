/- Keys and Granted: the sorted lists that they return. -/
import Derived.Test.YtneclonahddipaaBase
import Derived.Test.YtneclonahddipaaIter
import Derived.RangeFuncStops
import Derived.Sort.MapsRangeIn
import Derived.Sort.KeysCollected
import Derived.BigGuardPartIn
namespace Go.Proofs.Ytneclonahddipaa
open Go.RowKit Go.Maps Go.Sort Go.Shelf

attribute [local go_sem] Oper.semAt_some

/-- What reads as a key that is a struct of two strings. -/
theorem keyOf2_inv {P : Program} {k s : TypeId} {f0 f1 : Field} {N : Nat} (hu : P.underlying k = some (.struct #[f0, f1])) (hkt : P.keyType k = true) (hc : P.cellsOf k = 2) (hs : P.underlying s = some .string) (hcs : P.cellsOf s = 1)
    (e0 : f0.type = s) (e1 : f1.type = s) (o0 : f0.offset = 0) (o1 : f1.offset = 1) (hN : P.types.size + 1 = N + 1 + 1) {v : Value} {kl : Lit} (h : keyOf P k v = some kl) :
    ∃ x : ByteArray × ByteArray, v = .agg #[.string x.1, .string x.2] ∧ x.1.size ≤ maxLen ∧ x.2.size ≤ maxLen ∧ kl = gKey x.1 x.2 := by
  unfold keyOf at h
  rw [hu, hN] at h
  simp only [hkt, Bool.true_and] at h
  split at h
  · rename_i hf
    unfold Value.formed at hf
    rw [hu] at hf
    cases v <;> simp [hc] at hf
    rename_i cs
    obtain ⟨c0, c1, rfl⟩ : ∃ c0 c1, cs = #[c0, c1] := by
      obtain ⟨l⟩ := cs
      match l, hf with
      | [c0, c1], _ => exact ⟨c0, c1, rfl⟩
    simp [Program.keyLits, Value.cells, hu, hc, e0, e1, o0, o1, hcs, hs] at h
    have hs0 : ∃ s, c0 = .string s := by
      cases c0 <;> simp at h
      exact ⟨_, rfl⟩
    obtain ⟨s, rfl⟩ := hs0
    have hs1 : ∃ t, c1 = .string t := by
      by_cases h1 : s.size ≤ maxLen
      · simp [h1] at h
        cases c1 <;> simp at h
        exact ⟨_, rfl⟩
      · simp [h1] at h
    obtain ⟨t, rfl⟩ := hs1
    by_cases h1 : s.size ≤ maxLen
    · by_cases h2 : t.size ≤ maxLen
      · simp [h1, h2] at h
        obtain ⟨ls, ⟨_, hls⟩, hk⟩ := h
        exact ⟨(s, t), rfl, h1, h2, by rw [← hk, ← hls]; rfl⟩
      · simp [h1, h2] at h
    · simp [h1] at h
  · cases h
theorem keyOf53_inv {v : Value} {kl : Lit} (h : keyOf Try.prog 53 v = some kl) : ∃ x : ByteArray × ByteArray, v = .agg #[.string x.1, .string x.2] ∧ x.1.size ≤ maxLen ∧ x.2.size ≤ maxLen ∧ kl = gKey x.1 x.2 :=
  keyOf2_inv Try.underlying53 keyType53 cells53 Try.underlying9 cells9 rfl rfl rfl rfl typesSize h

/-- What has come of the keys granted to a. -/
def GColl (a : ByteArray) (G : DataW Unit) (left : Lit → Bool) (ss : List ByteArray) : Prop :=
  ss.Nodup ∧ (∀ x ∈ ss, x.size ≤ maxLen) ∧ ∀ x : ByteArray, x.size ≤ maxLen → (x ∈ ss ↔ (Maps.has G (gKey a x) = true ∧ left (gKey a x) = false))
/-- All keys granted to a, each once. -/
def GAll (a : ByteArray) (G : DataW Unit) (ss : List ByteArray) : Prop :=
  ss.Nodup ∧ (∀ x ∈ ss, x.size ≤ maxLen) ∧ ∀ x : ByteArray, x.size ≤ maxLen → (x ∈ ss ↔ Maps.has G (gKey a x) = true)
theorem GColl.start (a : ByteArray) (G : DataW Unit) : GColl a G (Maps.has G) [] := ⟨List.nodup_nil, by simp, fun x _ => by cases Maps.has G (gKey a x) <;> simp⟩
theorem sameKey_str (x y : List UInt8) : (Lit.string x).sameKey (.string y) = (x == y) := by simp [Lit.sameKey]
theorem GColl.skip {a a' k' : ByteArray} {G : DataW Unit} {left : Lit → Bool} {ss : List ByteArray} (h : GColl a G left ss) (ha : a.size ≤ maxLen) (ha' : a'.size ≤ maxLen) (hk' : k'.size ≤ maxLen) (hne : a ≠ a') :
    GColl a G (fun z => left z && !z.sameKey (gKey a' k')) ss := by
  refine ⟨h.1, h.2.1, fun x hx => ?_⟩
  have : (gKey a x).sameKey (gKey a' k') = false := by
    have hn : gKey a x ≠ gKey a' k' := fun e => hne (gKey_inj ha hx ha' hk' e).1
    exact sameKey_ne hn
  simp [h.2.2 x hx, this]
theorem GColl.step {a k' : ByteArray} {G : DataW Unit} {left : Lit → Bool} {ss : List ByteArray} (h : GColl a G left ss) (ha : a.size ≤ maxLen) (hk' : k'.size ≤ maxLen) (hl : left (gKey a k') = true) (hh : Maps.has G (gKey a k') = true) :
    GColl a G (fun z => left z && !z.sameKey (gKey a k')) (ss ++ [k']) := by
  have hnew : k' ∉ ss := fun hx => by have := ((h.2.2 k' hk').1 hx).2; rw [hl] at this; cases this
  refine ⟨List.nodup_append.2 ⟨h.1, by simp, fun x hx y hy => by simp at hy; subst hy; exact fun e => hnew (e ▸ hx)⟩, ?_, fun x hx => ?_⟩
  · intro x hx
    rcases List.mem_append.1 hx with hx | hx
    · exact h.2.1 x hx
    · simp at hx; subst hx; exact hk'
  · by_cases hxk : x = k'
    · subst hxk
      have : (gKey a x).sameKey (gKey a x) = true := WideAt.sameKey_self (gKey_isKey _ _)
      simp [hh, this]
    · have hn : gKey a x ≠ gKey a k' := fun e => hxk (gKey_inj ha hx ha hk' e).2
      have := sameKey_ne hn
      simp [h.2.2 x hx, this, hxk]
theorem GColl.all {a : ByteArray} {G : DataW Unit} {left : Lit → Bool} {ss : List ByteArray} (h : GColl a G left ss) (hl : ∀ kl, left kl = false) : GAll a G ss :=
  ⟨h.1, h.2.1, fun x hx => by rw [h.2.2 x hx, hl]; simp⟩

/-- What a round keeps. -/
def KpG (b n₁ : Nat) (W W' : World) : Prop := KeepsWalks W W' ∧ ∀ k, k < n₁ → k ≠ b → W'.heap[k]? = W.heap[k]?

set_option maxRecDepth 100000 in
set_option maxHeartbeats 2000000 in
theorem granted1_in (F : Fence) (n : Nat) (h39 : F.fn 39) (hro : F.round = none) (hn : 1 ≤ n) (l bO n₁ Bc Ba b mg nn : Nat) (a : ByteArray) (G : DataW Unit) (ha : a.size ≤ maxLen) (J Jx : List ByteArray → World → Prop)
    (hBa : Ba < n₁) (hBa' : Ba ≠ bO)
    (hY : ∀ pre x W, J pre W → pre.length < Maps.size G → YieldAt F (n - 1) Try.prog l #[.string x] W fun e W' =>
      (e = .returned (.bool true) ∧ J (pre ++ [x]) W' ∧ KpG bO n₁ W W') ∨ (e = .returned (.bool false) ∧ Jx (pre ++ [x]) W'))
    (W : World) (hn₁ : n₁ ≤ W.heap.size) (hJ : AbidesFrom W.heap.size J) (hBcc : W.cell? ⟨Bc, 0, none⟩ = some (.pointer (some ⟨b, 0, none⟩))) (hBac : W.cell? ⟨Ba, 0, none⟩ = some (.string a)) (hc1 : W.cell? ⟨b, 1, none⟩ = some (.map (some mg)))
    (hown : W.ownsMap Try.prog 53 unitElem mg nn G) (h0 : J [] W) :
    CallsIn F n Try.prog 39 #[.func (.yield l) #[] #[], .pointer (some ⟨Bc, 0, none⟩), .pointer (some ⟨Ba, 0, none⟩)] W fun e W' => (∃ v, e = .returned v) ∧
      ((∃ ss, (GAll a G ss ∧ ss.length ≤ Maps.size G) ∧ J ss W') ∨ (∃ pre : List ByteArray, True ∧ Jx pre W')) := by
  refine callsIn_of_wp Try.func39 rfl h39 ?_ hro
  simp only [Try.ntmps39, List.size_toArray, List.length_cons, List.length_nil, Nat.reduceAdd, Nat.reduceSub, Array.replicate_succ, Array.replicate_zero, List.push_toArray, List.append_toArray, List.nil_append, List.cons_append]
  gi_wp2_with (first
    | (gi_at_range; refine wpListIn_range_own _ rfl _ 46 rfl 53 51 lawG Try.underlying46 _ mg nn _ rfl hown ?_; intro w0 hrg0 hg0 hs0)
    | gi_in)
  go_frame
  have hBa0 := hg0.cell hBac (by simp)
  gi_loopw [4] (fun _ wr => ∃ (left : Lit → Bool) (cnt : Nat) (ss : List ByteArray), wr.ranges Try.prog 53 unitElem mg W.heap.size nn G left cnt ∧ ss.length + cnt ≤ Maps.size G ∧ GColl a G left ss ∧ J ss wr ∧ wr.cell? ⟨Ba, 0, none⟩ = some (.string a))
    (fun _ wr => wr.rangeLeft mg W.heap.size)
  case atStart => exact ⟨_, _, [], hrg0, by simp, GColl.start a G, hJ [] W w0 none h0 hg0 (fun r e => by cases e), hBa0⟩
  case round =>
    obtain ⟨left, cnt, ss, hrg, hcs, hC, hJs, hba⟩ := hrel
    gi_wp2_with (first
      | (gi_at_next; refine wpListIn_next_ranges _ rfl _ rfl 53 lawG unitElem (fun x : ByteArray × ByteArray => Value.agg #[.string x.1, .string x.2]) id (fun key kl hk => by obtain ⟨x, hx, _⟩ := keyOf53_inv hk; exact ⟨x, hx⟩) (fun v _ _ => ⟨v, rfl⟩) mg W.heap.size nn _ _ _ rfl hrg ?_ ?_)
      | gi_in)
    · intro hc0 hl0
      gi_wp2
      go_end0
      exact ⟨⟨_, rfl⟩, .inl ⟨ss, ⟨hC.all hl0, by omega⟩, hJs⟩⟩
    · intro a' k' c kl yd yp w2 cnt2 hkey hlk hv hat hrg2 hlt hg2 hs2 hen
      obtain ⟨y, ey, hs1, hs2', rfl⟩ := keyOf53_inv hkey
      have e1 : a' = y.1 := by simpa using congrArg (fun v => match v with | .agg cs => (match cs.toList with | [.string s, _] => s | _ => ByteArray.empty) | _ => ByteArray.empty) ey
      have e2 : k' = y.2 := by simpa using congrArg (fun v => match v with | .agg cs => (match cs.toList with | [_, .string s] => s | _ => ByteArray.empty) | _ => ByteArray.empty) ey
      rw [← e1] at hs1
      rw [← e2] at hs2'
      rw [← e1, ← e2] at hkey hlk hat hrg2
      clear ey e1 e2
      have hhas : Maps.has G (gKey a' k') = true := has_true_of_atKey hat
      have hJ2 : J ss w2 := hJ ss wr w2 (some W.heap.size) hJs hg2 (fun r e => by cases e; exact ⟨Nat.le_refl _, hrg.iter_walk⟩)
      have hJ3 : J ss (w2.alloc (.cells #[.string a', .string k'] 53)) := hJ ss w2 _ none hJ2 (World.grownBy_alloc _ _ _) (fun r e => by cases e)
      have hba2 := hg2.cell hba (by simp; omega)
      have hba3 : (w2.alloc (.cells #[.string a', .string k'] 53)).cell? ⟨Ba, 0, none⟩ = some (.string a) := (World.grownBy_alloc w2 _ none).cell hba2 (by simp)
      have hrg3 := hrg2.alloc (.cells #[.string a', .string k'] 53)
      have hsz2 : wr.heap.size = w2.heap.size := hs2.symm
      have hW : W.heap.size ≤ wr.heap.size := Nat.le_of_lt hrg.lt
      have HY := Lib.hid hY
      clear hs2 hJ2 hba hJs hba2 hY
      by_cases hak : a' = a
      · subst hak
        obtain ⟨fn, tmps, assign, body, hy, hR⟩ := HY.out ss k' _ hJ3 (by omega)
        gi_wp2
        refine hR.mono ?_
        have hC2 := hC.step hs1 hs2' hlk hhas
        rintro e W3 (⟨rfl, hJ4, hk4⟩ | ⟨rfl, hJx4⟩)
        · gi_wp2
          have hrg4 := hrg3.of_walks hk4.1
          have hba4 : W3.cell? ⟨Ba, 0, none⟩ = some (.string a') := (World.cell?_of_block (hk4.2 Ba hBa hBa')).trans hba3
          go_roundw
          case rel => exact ⟨_, cnt2, ss ++ [k'], hrg4, by simp; omega, hC2, hJ4, hba4⟩
          case measure => rw [hrg4.left_eq, hrg.left_eq]; exact hlt
        · gi_wp2
          refine bodyPost_ret (results_none rfl _ _ _) rfl ?_
          exact ⟨⟨_, rfl⟩, .inr ⟨ss ++ [k'], trivial, hJx4⟩⟩
      · have hne := toList_beq_false hak
        have hC2 := hC.skip ha hs1 hs2' (Ne.symm hak)
        gi_wp2
        refine ⟨fun _ h => (by cases h), ?_⟩
        gi_wp2
        go_roundw
        case rel => exact ⟨_, cnt2, ss, hrg3, by omega, hC2, hJ3, hba3⟩
        case measure => rw [hrg3.left_eq, hrg.left_eq]; exact hlt

/-- granted itself: the receiver and the name are boxed. -/
theorem granted_in (F : Fence) (n : Nat) (h31 : F.fn 31) (hro : F.round = none) (p : Value) (a : ByteArray) (w : World) (hp : p.oneCell' = true) :
    CallsIn F n Try.prog 31 #[p, .string a] w fun e w' => e = .returned (.func (.func 39) #[] #[.pointer (some ⟨w.heap.size, 0, none⟩), .pointer (some ⟨w.heap.size + 1, 0, none⟩)]) ∧ w' = (w.alloc (.cells #[p] 22)).alloc (.cells #[.string a] 9) := by
  refine callsIn_of_wp Try.func31 rfl h31 ?_ hro
  simp only [Try.ntmps31, List.size_toArray, List.length_cons, List.length_nil, Nat.reduceAdd, Nat.reduceSub, Array.replicate_succ, Array.replicate_zero, List.push_toArray, List.append_toArray, List.nil_append, List.cons_append]
  gi_wp2
  go_ret
  exact ⟨rfl, rfl⟩
end Go.Proofs.Ytneclonahddipaa
