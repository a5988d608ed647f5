/- CacheActs: for every list of acts the law returns true and the argument reads as it did. No condition. -/
import Derived.Test.YtneclonahddipaaRows
import Derived.Test.YtneclonahddipaaActsWalk
import Derived.OpenShut
import Derived.ShutString
import Derived.ChangeOld
import Derived.Below
import Derived.SizedLaws
namespace Go.Proofs.Ytneclonahddipaa.cacheActs
open Go.ChangeShapes Go.WideShapes Go.ChangeAt Go.RowKit Go.Deep
open Go.ChangeMaps (open_string shut_string)

theorem own : ownKnob Try.prog.godebug = none := by kernel_rfl

theorem weightsAll_mem {H : Type} {P : Program} {e : TypeId} {d : DataW H} {n : Nat} (hn : n ∈ d.weights P e) : ∀ {ds : List (DataW H)}, d ∈ ds → n ∈ DataW.weightsAll P e ds
  | [], h => by simp at h
  | d0 :: ds, h => by
    simp only [DataW.weightsAll, List.mem_append]
    rcases List.mem_cons.1 h with rfl | h
    · exact .inl hn
    · exact .inr (weightsAll_mem hn h)

theorem open_acts_sized {H : Type} {enc : TypeId × Value → H} {w : World} {base : Nat} {sp : Nat → Bool} {held : Bool} {fuel : Nat} {v : Value} {d : DataW H × List MemPlace} (h : DataW.trod enc Try.prog w base sp held fuel 36 v.cells.toList = some d)
    {a0 : Option Addr} {len0 cap0 : Nat} (hv : v = .slice a0 len0 cap0) (hsz : ∀ n ∈ d.1.weights Try.prog 36, n ≤ reachBytes) :
    ∃ xs : List ActV, ActRow w v xs ∧ ∀ i, i < xs.length → (xs[i]?.getD default).nm.size + 1 ≤ 9223372036854775807 ∧ (xs[i]?.getD default).k.size + 1 ≤ 9223372036854775807 := by
  subst hv
  rcases open_slice Try.underlying36 h with ⟨hcs, _⟩ | ⟨a, len, cap, m, n, D, Pl, hcs, _, hl, hm, hmm, hd, hx⟩
  · simp [Value.cells] at hcs
    obtain ⟨rfl, rfl, rfl⟩ := hcs
    exact ⟨[], ⟨none, 0, rfl, fun h => by simp at h⟩, fun i hi => by simp at hi⟩
  · simp [Value.cells] at hcs
    obtain ⟨rfl, rfl, rfl⟩ := hcs
    have hlm : len0 ≤ m := by rw [hmm]; split <;> omega
    have c39 : Try.prog.cellsOf 39 = 4 := by kernel_rfl
    have hw : ∀ i, i < len0 → ∀ n ∈ (D i).weights Try.prog 39, n ≤ reachBytes := by
      intro i hi n hn
      refine hsz n ?_
      rw [hd]
      simp only [DataW.weights, Try.underlying36]
      refine List.mem_cons_of_mem _ (List.mem_append_left _ (weightsAll_mem hn ?_))
      exact List.mem_map.2 ⟨i, List.mem_range.2 hi, rfl⟩
    have each : ∀ i, i < len0 → ∃ x : ActV, ((w.cell? (a.add (i * 4)) = some (.int .i64 x.kd) ∧ w.cell? (a.add (i * 4 + 1)) = some (.string x.nm) ∧ w.cell? (a.add (i * 4 + 2)) = some (.string x.k) ∧ w.cell? (a.add (i * 4 + 3)) = some (.string x.t)) ∧ ActOk x) ∧
        (x.nm.size + 1 ≤ 9223372036854775807 ∧ x.k.size + 1 ≤ 9223372036854775807) := by
      intro i hi
      obtain ⟨cs', h1, h2⟩ := hx i (by omega)
      rw [c39] at h1
      obtain ⟨_, hlen, hcell⟩ := World.cells?_some h1
      match cs', hlen with
      | [v0, v1, v2, v3], _ =>
        obtain ⟨y0, y1, y2, y3, n', hD, _, g0, g1, g2, g3⟩ := Joins.trod_struct4 Try.underlying39 h2
        have e0 := hcell 0 (by omega)
        have e1 := hcell 1 (by omega)
        have e2 := hcell 2 (by omega)
        have e3 := hcell 3 (by omega)
        rw [add_add] at e0 e1 e2 e3
        have k3 : Try.prog.cellsOf 3 = 1 := by kernel_rfl
        simp [k3, cells9] at g0 g1 g2 g3
        obtain ⟨kd, hk, _, _⟩ := DataW.trod_int Try.underlying3 g0
        obtain ⟨nm, hn, hy1, z1⟩ := DataW.trod_string Try.underlying9 g1
        obtain ⟨k, hk2, hy2, z2⟩ := DataW.trod_string Try.underlying9 g2
        obtain ⟨t, ht, _, z3⟩ := DataW.trod_string Try.underlying9 g3
        simp only [List.cons.injEq, and_true] at hk hn hk2 ht
        subst hk hn hk2 ht
        have hDi : D i = .agg [y0.1, y1.1, y2.1, y3.1] := by
          simp only [Prod.mk.injEq] at hD
          exact hD.1
        have hr : reachBytes + 1 ≤ 9223372036854775807 := by decide
        have w1 : nm.size ≤ reachBytes := by
          have := hw i hi nm.data.toList.length (by
            rw [hDi, hy1]
            simp [DataW.weights, Try.underlying39, DataW.weightsEach])
          simpa using this
        have w2 : k.size ≤ reachBytes := by
          have := hw i hi k.data.toList.length (by
            rw [hDi, hy2]
            simp [DataW.weights, Try.underlying39, DataW.weightsEach])
          simpa using this
        exact ⟨⟨kd, nm, k, t⟩, ⟨⟨by simpa using e0, by simpa using e1, by simpa using e2, by simpa using e3⟩, z1, z2, z3⟩, by show nm.size + 1 ≤ _; omega, by show k.size + 1 ≤ _; omega⟩
    obtain ⟨f, hf⟩ := choose_lt each
    have e : ∀ i, i < len0 → ((List.range len0).map f)[i]?.getD default = f i := fun i hi => by simp [hi]
    refine ⟨(List.range len0).map f, ⟨some a, cap0, by simp, fun h0 => ?_⟩, fun i hi => ?_⟩
    · simp at h0
      obtain ⟨g, off, spot⟩ := a
      have hspot : spot = none := by
        have := (hf 0 h0).1.1.1
        simpa [Addr.add] using World.cell?_spot this
      subst hspot
      refine ⟨g, off, rfl, fun i hi => ?_⟩
      simp at hi
      rw [e i hi]
      obtain ⟨⟨⟨e0, e1, e2, e3⟩, hok⟩, _⟩ := hf i hi
      refine ⟨⟨?_, ?_, ?_, ?_⟩, hok⟩
      · have := e0; unfold Addr.add at this; split at this <;> simp_all
      · simpa [Addr.add, Nat.add_assoc] using e1
      · simpa [Addr.add, Nat.add_assoc] using e2
      · simpa [Addr.add, Nat.add_assoc] using e3
    · simp at hi
      rw [e i hi]
      exact (hf i hi).2

set_option maxHeartbeats 1000000 in
set_option maxRecDepth 100000 in
theorem lifted (os : Os) (started : os.Started) (H : Type) (enc : TypeId × Value → H) :
    ReturnsInHanded {} Try.checked os 6 .any (Rows.cacheActsSpec.pre6 enc Try.prog Try.f6 Rows.cacheActsRow.domain false) (Rows.cacheActsSpec.post enc Try.prog Try.f6 false true false false) := by
  refine returnsInHanded_of_change_sized (C := Try.checked) own started (by kernel_rfl) Try.func6
    (ChangeSpec.witness6 (enc := enc) (C := Try.checked) false ⟨#[], #[.slice none 0 0], []⟩ 8 (by kernel_rfl) (by kernel_rfl) (by kernel_rfl) (by kernel_rfl)) ?_
  intro W base args ds gs before hval0 hW hcnd hwt _
  have hval : ∀ (j : Nat) t v, Try.f6.params[j]? = some t → args[j]? = some v → Value.okWide Try.prog W .any base t v := hval0
  have hW' := hW
  obtain ⟨p, q, hA0, hV, rfl, hfz, hnd⟩ := hW
  have hA : DataW.TrodAll enc Try.prog W 0 (fun _ => true) true Try.f6.params.toList args.toList ds p := hA0
  rw [Try.params6] at hA hval
  obtain ⟨v0, vs0, d0, ds0, p0, q0, hargs, rfl, rfl, h0, r0⟩ := trodAll_cons hA
  obtain ⟨rfl, rfl, rfl⟩ := trodAll_nil r0
  obtain rfl : args = #[v0] := by cases args; simp_all
  obtain ⟨rfl, rfl⟩ := trodVars_none hV
  obtain ⟨a0, len0, cap0, rfl⟩ := okWide_slice Try.underlying36 (hval 0 36 v0 rfl rfl)
  have k0 := h0
  have lt0 : ∀ x ∈ p0, x.block < W.heap.size := by obtain ⟨m, hm⟩ := k0; exact DataW.trod_lt m _ _ _ hm
  have hsz : ∀ n ∈ d0.weights Try.prog 36, n ≤ reachBytes := by
    intro n hn
    have := List.all_eq_true.1 hwt n (DataW.weights_mem_each (j := 0) (t := 36) (d := d0) (by rfl) (by simp) n hn)
    simpa using this
  obtain ⟨xs, hx, hs⟩ : ∃ xs, ActRow W (.slice a0 len0 cap0) xs ∧ ∀ i, i < xs.length → (xs[i]?.getD default).nm.size + 1 ≤ 9223372036854775807 ∧ (xs[i]?.getD default).k.size + 1 ≤ 9223372036854775807 := by
    obtain ⟨f, hf⟩ := h0; exact open_acts_sized hf rfl hsz
  clear hA0 hval0
  refine (acts_any _ xs W hx hs).mono fun e W' ⟨he, bel⟩ => ?_
  subst he
  exact ⟨_, rfl, _, _, _, [], _, [], hW', trodAll_mk1 (shut_bool Try.underlying4 _),
    trodAll_cons_mk (Below.trod laidOut (by kernel_rfl) (of_decide_eq_true (by kernel_rfl)) k0 bel lt0) trodAll_mk0, rfl, bel.frame _, fun h => by cases h⟩

theorem over : Rows.cacheActsRow.holds Try.pinned (OpenSpec.ofChange Rows.cacheActsSpec) :=
  OpenClaim.holds_of_wide 6 Try.f6 rfl rfl rfl rfl rfl rfl rfl ⟨rfl, rfl, rfl, rfl, rfl⟩ rfl rfl rfl rfl rfl (by kernel_rfl) Try.func6 (by kernel_rfl)
    (of_decide_eq_true (by kernel_rfl)) (by unfold Func.isWrapper; first | (rw [if_pos (by decide +kernel)]; kernel_rfl) | (rw [if_neg (by decide +kernel)]; exact ⟨rfl, rfl⟩))
    (fun os started H enc _ => lifted os started H enc)

/-- The statement. -/
theorem proved : Rows.CacheActsSaid := over
end Go.Proofs.Ytneclonahddipaa.cacheActs
