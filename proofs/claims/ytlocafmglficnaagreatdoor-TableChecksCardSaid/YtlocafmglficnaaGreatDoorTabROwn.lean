/- The reference's owners of a base and of a table. -/
import Derived.Test.YtlocafmglficnaaGreatDoorTabIns
import Derived.Test.YtlocafmglficnaaGreatDoorTabPeople
namespace Go.Proofs.YtlocafmglficnaaGreatDoor
open Go.RowKit Go.Maps Go.Sort Go.Shelf

theorem asc_snoc (l : List Int) (x : Int) : asc (l ++ [x]) = ins (asc l) x := by unfold asc; rw [List.foldl_append]; rfl
theorem ownersOf_snoc (ts : List Tbl) (k : Nat) (h : k < ts.length) : ownersOf (ts.take (k + 1)) = ownersOf (ts.take k) ++ ownersT ts[k] := by
  unfold ownersOf; rw [List.take_succ_eq_append_getElem h, List.flatMap_append]; simp only [List.flatMap_cons, List.flatMap_nil, List.append_nil]
theorem ownersOf_le : ∀ (ts : List Tbl), (∀ T ∈ ts, T.rows.length ≤ 1000) → (ownersOf ts).length ≤ ts.length * 1000
  | [], _ => by simp [ownersOf]
  | T :: ts, h => by
    have h1 := ownersOf_le ts fun x hx => h x (List.mem_cons_of_mem _ hx)
    have h2 := ownersT_le T
    have h3 := h T (by simp)
    unfold ownersOf at *
    rw [List.flatMap_cons, List.length_append, List.length_cons]
    omega
/-- What is gathered behind k tables and j rows of the next one. -/
def gath (ts : List Tbl) (T : Tbl) (k j : Nat) : List Int := asc (ownersOf (ts.take k) ++ if T.sch.pub then [] else (T.rows.take j).map RowV.owner)
theorem gath_len {ts : List Tbl} {T : Tbl} {k j : Nat} (hk : k ≤ ts.length) (hr : ∀ T ∈ ts, T.rows.length ≤ 1000) (hn : ts.length ≤ 900) (hT : T.rows.length ≤ 1000) : (gath ts T k j).length ≤ 1000000 := by
  unfold gath
  refine Nat.le_trans (asc_length _) ?_
  rw [List.length_append]
  have h1 := ownersOf_le (ts.take k) fun x hx => hr x (List.mem_of_mem_take hx)
  rw [List.length_take] at h1
  have h2 : (if T.sch.pub then [] else (T.rows.take j).map RowV.owner : List Int).length ≤ 1000 := by
    split
    · simp
    · simp; omega
  omega
set_option maxRecDepth 100000 in
set_option maxHeartbeats 4000000 in
theorem rownersOf_any (C : TypeId → Nat → Prop) (v : Value) (ts : List Tbl) (w : World) (h : SRow tblK C w v ts) (hn : ts.length ≤ 900) (hr : ∀ T ∈ ts, T.rows.length ≤ 1000) :
    Calls Tryz.prog 36 #[v] w fun e w' => ∃ v', e = .returned v' ∧ OSeq intK w.heap.size w' v' (asc (ownersOf ts)) ∧ Below w.heap.size w w' := by
  obtain ⟨A, ca, rfl, hl, hm, hc⟩ := h.tbls
  unfold maxLen at hm
  have HC := Lib.hid hc
  have HR := Lib.hid hr
  have HN := Lib.hid hn
  clear hc h hr
  go_enter Tryz.func36, Tryz.ntmps36
  go_wp2
  go_loopw [3, 4] (fun u i wr => ∃ k : Nat, k ≤ ts.length ∧ i = .int .i64 k ∧ OSeq intK w.heap.size wr u (asc (ownersOf (ts.take k))) ∧ Below w.heap.size w wr) (fun _ i _ => ts.length - (intOf i).toNat)
  case atStart => exact ⟨0, Nat.zero_le _, rfl, OSeq.nil _ _ _, Below.refl _ _⟩
  case round =>
    obtain ⟨k, hk, rfl, hseq, hB⟩ := hrel
    have HQ := Lib.hid hseq
    have HB := Lib.hid hB
    clear hseq hB
    have hi0 : (0 : Int) ≤ (k : Int) := by omega
    by_cases hlt : k < ts.length
    · have hi1 : (k : Int) < (ts.length : Int) := by omega
      obtain ⟨b, of, rfl, hcell⟩ := HC.out (by omega)
      obtain ⟨pu, pv, p0, p1, p2, p3, p4, pr, px, ps⟩ := hcell k hlt
      obtain ⟨pB, pd, rfl, hp1, hp2, hrc⟩ := px.rows
      have HRC := Lib.hid hrc
      have HTK := Lib.hid (ownersOf_snoc ts k hlt)
      have HTR := Lib.hid (HR.out ts[k] (List.getElem_mem hlt))
      have HP1 := Lib.hid p1
      have HP4 := Lib.hid p4
      have HLT := Lib.hid hlt
      clear hcell p0 p1 p2 p3 p4 pr px ps hrc
      generalize hT : ts[k] = T at *
      clear hT hlt
      have HST := Lib.hid (show OSeq intK w.heap.size wr u3 (gath ts T k 0) by unfold gath; simpa using HQ.out)
      have hrm : T.rows.length ≤ 1000 := HTR.out
      obtain ⟨wo, hwo⟩ : ∃ wo : World, wo = wr := ⟨_, rfl⟩
      go_wp2
      go_loopw [3, 5] (fun u j wi => ∃ q : Nat, q ≤ T.rows.length ∧ j = .int .i64 q ∧ OSeq intK w.heap.size wi u (gath ts T k q) ∧ Below w.heap.size w wi) (fun _ j _ => T.rows.length - (intOf j).toNat)
      case atStart => exact ⟨0, Nat.zero_le _, rfl, HST.out, HB.out⟩
      case round =>
        obtain ⟨q, hq, rfl, hsq, hBi⟩ := hrel
        obtain ⟨Ai, ci, rfl, _, _⟩ := hsq.slice
        have HQI := Lib.hid hsq
        have HBI := Lib.hid hBi
        have c4 := cell_later hBi HP4.out
        have hj0 : (0 : Int) ≤ (q : Int) := by omega
        have HGL := Lib.hid (gath_len (T := T) (j := q) hk HR.out HN.out HTR.out)
        by_cases hpub : T.sch.pub = true
        · have c1 := cell_later hBi HP1.out
          rw [hpub] at c1
          have HFI := Lib.hid (show gath ts T k q = asc (ownersOf (ts.take (k + 1))) by unfold gath; rw [HTK.out, if_pos hpub]; unfold ownersT; rw [if_pos hpub])
          clear hpub hsq hBi
          go_wp2
          go_roundw
          case rel => exact ⟨k + 1, HLT.out, by go_num, by rw [← HFI.out]; exact HQI.out, HBI.out⟩
          case measure => have := HLT.out; simp [intOf]; omega
        · have c1 := cell_later hBi HP1.out
          rw [show T.sch.pub = false by simpa using hpub] at c1
          have HOT := Lib.hid (show ownersT T = T.rows.map RowV.owner by unfold ownersT; rw [if_neg hpub])
          have HGA := Lib.hid (show ∀ j, gath ts T k j = asc (ownersOf (ts.take k) ++ (T.rows.take j).map RowV.owner) from fun j => by unfold gath; rw [if_neg hpub])
          clear hpub hsq hBi
          by_cases hql : q < T.rows.length
          · have hj1 : (q : Int) < (T.rows.length : Int) := by omega
            obtain ⟨rb, ro, rfl, hrcell⟩ := HRC.out (by omega)
            obtain ⟨ru, r0, r1, hrv, hfo⟩ := hrcell q hql
            have d0 := cell_later HBI.out r0
            have HG1 := Lib.hid (show gath ts T k (q + 1) = ins (gath ts T k q) T.rows[q].owner by
              rw [HGA.out, HGA.out, List.take_succ_eq_append_getElem hql, List.map_append, ← List.append_assoc]
              exact asc_snoc _ _)
            have HFO := Lib.hid hfo
            have HQL := Lib.hid hql
            clear hrcell r0 r1 hrv hfo
            generalize T.rows[q] = r at *
            clear hql
            go_wp2_with (go_at_call 58; refine (rinsert_any w.heap.size _ (gath ts T k q) r.owner _ HQI.out HBI.out.size HFO.out HGL.out).mono ?_; rintro e w2 ⟨v2, rfl, ho2, hb2⟩; have HO2 := Lib.hid ho2; have HB2 := Lib.hid (HBI.out.trans (hb2.mono HBI.out.size)); clear ho2 hb2)
            go_roundw
            case rel => exact ⟨q + 1, HQL.out, by go_num, by rw [HG1.out]; exact HO2.out, HB2.out⟩
            case measure => have := HQL.out; simp [intOf]; omega
          · have hj1 : ¬ (q : Int) < (T.rows.length : Int) := by omega
            have HFI := Lib.hid (show gath ts T k q = asc (ownersOf (ts.take (k + 1))) by rw [HGA.out, HTK.out, HOT.out, List.take_of_length_le (l := T.rows) (by omega)])
            clear hql
            go_wp2
            go_roundw
            case rel => exact ⟨k + 1, HLT.out, by go_num, by rw [← HFI.out]; exact HQI.out, HBI.out⟩
            case measure => have := HLT.out; simp [intOf]; omega
    · obtain rfl : k = ts.length := by omega
      have HF := Lib.hid (show OSeq intK w.heap.size wr u3 (asc (ownersOf ts)) by
        have := HQ.out
        rwa [List.take_of_length_le (Nat.le_refl _)] at this)
      clear hlt
      go_wp2
      go_ret
      exact ⟨_, rfl, HF.out, HB.out⟩
end Go.Proofs.YtlocafmglficnaaGreatDoor
