/- vast, VastSchema: what is not vast is small. -/
import Derived.Test.YtlocafmglficnaaGreatDoorTabSameT
namespace Go.Proofs.YtlocafmglficnaaGreatDoor
open Go.RowKit Go.Maps Go.Sort Go.Shelf

def TameS (S : Sch) : Prop := S.cols.length ≤ 100 ∧ ∀ c ∈ S.cols, c.words.length ≤ 100
def Tame1 (T : Tbl) : Prop := T.rows.length ≤ 60 ∧ TameS T.sch ∧ ∀ r ∈ T.rows, r.vals.length ≤ 20
def Tame (ts : List Tbl) : Prop := ts.length ≤ 20 ∧ ∀ T ∈ ts, Tame1 T
/-- It answers, and what it denies is not so. -/
def Says (P : Prop) (e : Ending) : Prop := ∃ bb : Bool, e = .returned (.bool bb) ∧ (bb = false → P)
theorem all_of_at {α : Type} {p : α → Prop} {l : List α} (h : ∀ j (hj : j < l.length), j < l.length → p l[j]) : ∀ x ∈ l, p x := by
  intro x hx
  obtain ⟨j, hj, rfl⟩ := List.getElem_of_mem hx
  exact h j hj hj
set_option maxHeartbeats 1000000 in
theorem vasts_any (C : TypeId → Nat → Prop) (v : Value) (S : Sch) (w : World) (h : SchVal C w v S) :
    Calls Tryz.prog 24 #[v] w fun e w' => Says (TameS S) e ∧ Below w.heap.size w w' := by
  obtain ⟨u, rfl, hcols, hst⟩ := h
  obtain ⟨A, cc, rfl, hl, hm, hc⟩ := hcols.cols
  have HC := Lib.hid hc
  unfold maxLen at hm
  clear hcols hc hst
  have HB := Lib.hid (below_alloc w (.cells #[.string S.name, .bool S.pub, .int .i64 S.many, .slice A S.cols.length cc] 34))
  have b3 := (box4 w (.string S.name) (.bool S.pub) (.int .i64 S.many) (.slice A S.cols.length cc) 34).2.2.2
  have hlt0 : w.heap.size < (w.alloc (.cells #[.string S.name, .bool S.pub, .int .i64 S.many, .slice A S.cols.length cc] 34)).heap.size := by simp
  go_enter Tryz.func24, Tryz.ntmps24
  go_wp2
  generalize w.alloc (.cells #[.string S.name, .bool S.pub, .int .i64 S.many, .slice A S.cols.length cc] 34) = W0 at *
  go_loopw [3] (fun i wr => W0 = wr ∧ ∃ k : Nat, k ≤ S.cols.length ∧ i = .int .i64 k ∧ ∀ j (_ : j < S.cols.length), j < k → S.cols[j].words.length ≤ 100) (fun i _ => S.cols.length - (intOf i).toNat)
  case atStart => exact ⟨rfl, 0, Nat.zero_le _, rfl, fun j _ hj => by omega⟩
  case round =>
    obtain ⟨rfl, k, hk, rfl, hall⟩ := hrel
    have HALL := Lib.hid hall
    clear hall
    have hi0 : (0 : Int) ≤ (k : Int) := by omega
    by_cases hlt : k < S.cols.length
    · have hi1 : (k : Int) < (S.cols.length : Int) := by omega
      by_cases h100 : k ≤ 100
      · have hi2 : (k : Int) ≤ 100 := by omega
        obtain ⟨b, o, rfl, hcell⟩ := HC.out (by omega)
        obtain ⟨u, c0, c1, c2, c3, hw, hrest⟩ := hcell k hlt
        obtain ⟨Aw, cw, rfl, _, _⟩ := hw.slice
        have d3 := cell_later HB.out c3
        have HN := Lib.hid (show S.cols[k].words.length ≤ 100 → ∀ j (_ : j < S.cols.length), j < k + 1 → S.cols[j].words.length ≤ 100 from fun h0 j hj h => by
          rcases Nat.lt_or_ge j k with h1 | h1
          · exact HALL.out j hj h1
          · obtain rfl : j = k := by omega
            exact h0)
        have HLT := Lib.hid hlt
        clear c0 c1 c2 c3 hw hcell hrest
        generalize S.cols[k] = x at *
        by_cases hwl : 100 < x.words.length
        · have hw1 : (100 : Int) < (x.words.length : Int) := by omega
          clear hlt h100 hwl
          go_wp2
          go_ret
          exact ⟨⟨_, rfl, (fun e => by cases e)⟩, HB.out⟩
        · have hw1 : ¬ (100 : Int) < (x.words.length : Int) := by omega
          have HN2 := Lib.hid (HN.out (by omega))
          clear hlt h100 hwl
          go_wp2
          go_roundw
          case rel => exact ⟨trivial, k + 1, HLT.out, by go_num, HN2.out⟩
          case measure => have := HLT.out; simp [intOf]; omega
      · have hi2 : ¬ (k : Int) ≤ 100 := by omega
        have hi3 : (100 : Int) < (S.cols.length : Int) := by omega
        clear hlt h100
        go_wp2
        go_ret
        exact ⟨⟨_, rfl, (fun e => by cases e)⟩, HB.out⟩
    · obtain rfl : k = S.cols.length := by omega
      by_cases h100 : 100 < S.cols.length
      · have hi3 : (100 : Int) < (S.cols.length : Int) := by omega
        clear hlt h100
        go_wp2
        go_ret
        exact ⟨⟨_, rfl, (fun e => by cases e)⟩, HB.out⟩
      · have hi3 : ¬ (100 : Int) < (S.cols.length : Int) := by omega
        have HT := Lib.hid (show TameS S from ⟨by omega, all_of_at HALL.out⟩)
        clear hlt h100
        go_wp2
        go_ret
        exact ⟨⟨_, rfl, fun _ => HT.out⟩, HB.out⟩
set_option maxRecDepth 100000 in
set_option maxHeartbeats 2000000 in
theorem vast_any (C : TypeId → Nat → Prop) (v : Value) (ts : List Tbl) (w : World) (h : SRow tblK C w v ts) :
    Calls Tryz.prog 5 #[v] w fun e w' => Says (Tame ts) e ∧ Below w.heap.size w w' := by
  obtain ⟨A, ca, rfl, hl, hm, hc⟩ := h.tbls
  unfold maxLen at hm
  have HC := Lib.hid hc
  clear hc h
  go_enter Tryz.func5, Tryz.ntmps5
  go_wp2
  go_loopw [3] (fun i wr => ∃ k : Nat, k ≤ ts.length ∧ i = .int .i64 k ∧ (∀ j (_ : j < ts.length), j < k → Tame1 ts[j]) ∧ Below w.heap.size w wr) (fun i _ => ts.length - (intOf i).toNat)
  case atStart => exact ⟨0, Nat.zero_le _, rfl, fun j _ hj => by omega, Below.refl _ _⟩
  case round =>
    obtain ⟨k, hk, rfl, hall, hB⟩ := hrel
    have HALL := Lib.hid hall
    have HB := Lib.hid hB
    clear hall hB
    have hi0 : (0 : Int) ≤ (k : Int) := by omega
    by_cases hlt : k < ts.length
    · have hi1 : (k : Int) < (ts.length : Int) := by omega
      by_cases h21 : k < 21
      · have hi2 : (k : Int) < 21 := by omega
        obtain ⟨b, o, rfl, hcell⟩ := HC.out (by omega)
        obtain ⟨pu, pv, p0, p1, p2, p3, p4, pr, px, ps⟩ := hcell k hlt
        have pc0 := cell_later HB.out p0
        have pc1 := cell_later HB.out p1
        have pc2 := cell_later HB.out p2
        have pc3 := cell_later HB.out p3
        have pc4 := cell_later HB.out p4
        obtain ⟨pA, pc, rfl, _, _⟩ := pr.slice
        obtain ⟨pB, pd, rfl, _, hpm, hrc⟩ := px.rows
        have HRC := Lib.hid hrc
        have HSV := Lib.hid (show SchVal C wr (.agg #[.string ts[k].sch.name, .bool ts[k].sch.pub, .int .i64 ts[k].sch.many, .slice pA ts[k].sch.cols.length pc]) ts[k].sch from ⟨_, rfl, pr.below HB.out, ps⟩)
        have HP4 := Lib.hid p4
        have HN := Lib.hid (show Tame1 ts[k] → ∀ j (_ : j < ts.length), j < k + 1 → Tame1 ts[j] from fun ht j hj h => by
          rcases Nat.lt_or_ge j k with h1 | h1
          · exact HALL.out j hj h1
          · obtain rfl : j = k := by omega
            exact ht)
        have HLT := Lib.hid hlt
        clear hcell p0 p1 p2 p3 p4 pr px hrc ps
        generalize ts[k] = T at *
        clear hlt
        by_cases h60 : 60 < T.rows.length
        · have hi3 : (60 : Int) < (T.rows.length : Int) := by omega
          clear h60
          go_wp2
          go_ret
          exact ⟨⟨_, rfl, (fun e => by cases e)⟩, HB.out⟩
        · have hi3 : ¬ (60 : Int) < (T.rows.length : Int) := by omega
          have H60 := Lib.hid h60
          clear h60
          go_wp2_with (go_at_call 24; refine (vasts_any C _ T.sch _ HSV.out).mono ?_; rintro e w1 ⟨⟨bb, rfl, hbb⟩, hb1⟩; have HBB := Lib.hid hbb; have HB1 := Lib.hid (HB.out.trans (hb1.mono HB.out.size)); clear hbb hb1)
          · go_ret
            exact ⟨⟨_, rfl, (fun e => by cases e)⟩, HB1.out⟩
          · rename_i hbf
            have HTS := Lib.hid (HBB.out hbf)
            clear HBB hbf
            have q4 := cell_later HB1.out HP4.out
            go_loopw [4] (fun i wi => w1 = wi ∧ ∃ j : Nat, j ≤ T.rows.length ∧ i = .int .i64 j ∧ ∀ q (_ : q < T.rows.length), q < j → T.rows[q].vals.length ≤ 20) (fun i _ => T.rows.length - (intOf i).toNat)
            case atStart => exact ⟨rfl, 0, Nat.zero_le _, rfl, fun q _ hq => by omega⟩
            case round =>
              obtain ⟨rfl, j, hj, rfl, hvs⟩ := hrel
              have HVS := Lib.hid hvs
              clear hvs
              have hj0 : (0 : Int) ≤ (j : Int) := by omega
              by_cases hjl : j < T.rows.length
              · have hj1 : (j : Int) < (T.rows.length : Int) := by omega
                obtain ⟨rb, ro, rfl, hrcell⟩ := HRC.out (by omega)
                obtain ⟨ru, r0, r1, hrv, hrest⟩ := hrcell j hjl
                obtain ⟨rA, rc, rfl, _, _⟩ := hrv.slice
                have s1 := cell_later HB1.out r1
                have HN3 := Lib.hid (show T.rows[j].vals.length ≤ 20 → ∀ q (_ : q < T.rows.length), q < j + 1 → T.rows[q].vals.length ≤ 20 from fun h0 q hq h => by
                  rcases Nat.lt_or_ge q j with h1 | h1
                  · exact HVS.out q hq h1
                  · obtain rfl : q = j := by omega
                    exact h0)
                have HJL := Lib.hid hjl
                clear hrcell r0 r1 hrv hrest
                generalize T.rows[j] = r at *
                by_cases h20 : 20 < r.vals.length
                · have hi4 : (20 : Int) < (r.vals.length : Int) := by omega
                  clear hjl h20
                  go_wp2
                  go_ret
                  exact ⟨⟨_, rfl, (fun e => by cases e)⟩, HB1.out⟩
                · have hi4 : ¬ (20 : Int) < (r.vals.length : Int) := by omega
                  have HN4 := Lib.hid (HN3.out (by omega))
                  clear hjl h20
                  go_wp2
                  go_roundw
                  case rel => exact ⟨trivial, j + 1, HJL.out, by go_num, HN4.out⟩
                  case measure => have := HJL.out; simp [intOf]; omega
              · obtain rfl : j = T.rows.length := by omega
                have HTM := Lib.hid (HN.out ⟨by have := H60.out; omega, HTS.out, all_of_at HVS.out⟩)
                clear hjl
                go_wp2
                go_roundw
                case rel => exact ⟨k + 1, HLT.out, by go_num, HTM.out, HB1.out⟩
                case measure => have := HLT.out; simp [intOf]; omega
      · have hi2 : ¬ (k : Int) < 21 := by omega
        have hi3 : (20 : Int) < (ts.length : Int) := by omega
        clear hlt h21
        go_wp2
        go_ret
        exact ⟨⟨_, rfl, (fun e => by cases e)⟩, HB.out⟩
    · obtain rfl : k = ts.length := by omega
      by_cases h20 : 20 < ts.length
      · have hi3 : (20 : Int) < (ts.length : Int) := by omega
        clear hlt h20
        go_wp2
        go_ret
        exact ⟨⟨_, rfl, (fun e => by cases e)⟩, HB.out⟩
      · have hi3 : ¬ (20 : Int) < (ts.length : Int) := by omega
        have HT := Lib.hid (show Tame ts from ⟨by omega, all_of_at HALL.out⟩)
        clear hlt h20
        go_wp2
        go_ret
        exact ⟨⟨_, rfl, fun _ => HT.out⟩, HB.out⟩
end Go.Proofs.YtlocafmglficnaaGreatDoor
