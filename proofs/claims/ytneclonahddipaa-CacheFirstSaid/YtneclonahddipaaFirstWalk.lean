/- The law CacheFirst returns true: the walk. -/
import Derived.Test.YtneclonahddipaaFirstList
namespace Go.Proofs.Ytneclonahddipaa
open Go.RowKit Go.Maps Go.Sort Go.Shelf

theorem hv_of {a b c d e : Bool} (h1 : a = (b || d)) (h2 : b = c) (h3 : e = (c || d)) : a = e := by rw [h1, h2, h3]

theorem has_yes (b ma mg n : Nat) (A G : DataW Unit) (a k : ByteArray) (w : World) (h : IsCache w b ma mg n A G) (ha : a.size ≤ maxLen) (hk : k.size ≤ maxLen) (hh : Maps.has G (gKey a k) = true) :
    Calls Try.prog 12 #[.pointer (some ⟨b, 0, none⟩), .string a, .string k] w fun e w' => e = .returned (.bool true) ∧ Below w.heap.size w w' := by
  have := has_any b ma mg n A G a k w h ha hk
  rwa [hh] at this

set_option maxRecDepth 100000 in
set_option maxHeartbeats 8000000 in
theorem first_any (va : Value) (xs : List ActV) (key name : ByteArray) (w : World) (ha : ActRow w va xs) (hcap : ∀ A n c, va = .slice A n c → n ≤ c ∧ c ≤ maxLen) (hk : key.size ≤ maxLen) (hnm : name.size ≤ maxLen) :
    Calls Try.prog 5 #[va, .string key, .string name] w fun e w' => e = .returned (.bool true) ∧ Below w.heap.size w w' := by
  obtain ⟨A, ca, rfl, hra⟩ := id ha
  obtain ⟨hca, hcm⟩ := hcap _ _ _ rfl
  by_cases hx : 60 < xs.length
  · have hx' : (60 : Int) < (xs.length : Int) := by omega
    go_enter Try.func5, Try.ntmps5
    go_wp2_with (go_at_call 3; refine (known_any _).mono ?_; rintro e w1 ⟨rfl, hb⟩)
    go_ret
    exact ⟨rfl, hb⟩
  have hx' : ¬ (60 : Int) < (xs.length : Int) := by omega
  have zt : st.size ≤ maxLen := by decide
  have HA := Lib.hid ha
  have HRA := Lib.hid hra
  have HX := Lib.hid (And.intro hx (And.intro hca hcm))
  clear hra hx ha hca hcm hcap
  go_enter Try.func5, Try.ntmps5
  go_wp2_with (first
    | (go_at_call 3; refine (known_any _).mono ?_; rintro e w1 ⟨rfl, hb1⟩)
    | (go_at_call 8; refine (new_any _).mono ?_; rintro e w2 ⟨rfl, hc, hb⟩; have k0 : Kc w1 w2 0 D0 D0 := ⟨hc, hb⟩; clear hc hb)
    | (go_at_call 10; refine (put_new _ _ _ _ _ _ key st _ k0.c hk zt (by omega) rfl).mono ?_; rintro e w3 ⟨rfl, hc, hg⟩; have k1 := k0.put hc hg; clear hc hg k0))
  have hh1 : Holds1 (D0.put (aKey key) (.lit (.string st.data.toList))) key st := ⟨has_put_same isMap0 (aKey_isKey _) _, atKey_put_same isMap0 (aKey_isKey _) _ _⟩
  generalize (D0.put (aKey key) (.lit (.string st.data.toList)) : DataW Unit) = A1 at *
  go_loopw [9, 10] (fun u i wr => ∃ (j n m : Nat) (A G : DataW Unit), j ≤ xs.length ∧ n ≤ j + 1 ∧ u = .int .i64 (m : Int) ∧ m ≤ j ∧ i = .int .i64 (j : Int) ∧ Kc w1 wr n A G ∧ Holds1 A key st ∧ Maps.has G (gKey name key) = (xs.take j).any (isGrant key name) ∧ (0 < m → (xs.take j).any (isGrant key name) = true)) (fun _ i _ => xs.length - (intOf i).toNat)
  case atStart => exact ⟨0, 1, 0, A1, D0, Nat.zero_le _, by omega, rfl, Nat.le_refl _, rfl, k1, hh1, by simp [Maps.has], by simp⟩
  case round =>
    obtain ⟨j, n, m, A2, G2', hj, hnj, rfl, hmj, rfl, hkc, hh, hgr, hmg⟩ := hrel
    clear k1 hh1
    rcases Nat.lt_or_ge j xs.length with hlt | hge
    · obtain ⟨g, off, rfl, hc⟩ := HRA.out (by omega)
      obtain ⟨⟨e0, e1, e2, e3⟩, hok⟩ := hc j hlt
      obtain ⟨ok1, ok2, ok3⟩ := id hok
      clear hc
      have HTK := Lib.hid (take_any_succ (p := isGrant key name) hlt)
      generalize xs[j]?.getD default = x at *
      have hlow := hb1.trans (hkc.b.mono hb1.size)
      have HROW := Lib.hid (fun W (hW : Below w.heap.size w W) => (actRow_take HA.out ca (n := j + 1) hlt).kept (grown_none hW none))
      have hi0 : (0 : Int) ≤ (j : Int) := by omega
      have hi1 : (j : Int) < (xs.length : Int) := by omega
      have hi2 : (j : Int) + 1 ≤ (ca : Int) := by have := HX.out.2.1; omega
      have hi3 : (j : Int) < 60 := by have := HX.out.1; omega
      have hn1 : n < 1000000 := by have := HX.out.1; omega
      have HH := Lib.hid (And.intro hh (And.intro hgr hmg))
      obtain ⟨kd, nm', k', t'⟩ := x
      dsimp only at e0 e1 e2 e3 ok1 ok2 ok3
      have hcases : (kd = 2 ∧ k' = key ∧ nm' = name ∧ (m = 0 ∨ 0 < m)) ∨ (((kd == 2) = false ∨ (kd = 2 ∧ (k'.toList == key.toList) = false) ∨ (kd = 2 ∧ k' = key ∧ (nm'.toList == name.toList) = false)) ∧ (m = 0 ∨ 0 < m)) := by
        have hm : m = 0 ∨ 0 < m := by omega
        by_cases h2 : kd = 2
        · by_cases h3 : k' = key
          · by_cases h4 : nm' = name
            · exact .inl ⟨h2, h3, h4, hm⟩
            · exact .inr ⟨.inr (.inr ⟨h2, h3, toList_beq_false h4⟩), hm⟩
          · exact .inr ⟨.inr (.inl ⟨h2, toList_beq_false h3⟩), hm⟩
        · exact .inr ⟨.inl (by simpa using h2), hm⟩
      have hT : (0 < m ∨ isGrant key name ⟨kd, nm', k', t'⟩ = true) → (xs.take (j + 1)).any (isGrant key name) = true := by
        intro h
        rw [HTK.out]
        rcases h with h | h
        · rw [hmg h]; simp
        · rw [h]; simp
      clear hh hgr hmg hj hlt
      rcases hcases with ⟨rfl, rfl, rfl, hm⟩ | ⟨hc, hm⟩
      · have hTT := hT (.inr (by simp [isGrant]))
        clear hT hm
        have hmp : (0 : Int) < (m : Int) + 1 := by omega
        have hmw : (m : Int) < 100 := by omega
        have e0' := Lib.hid e0
        have e1' := Lib.hid e1
        have e2' := Lib.hid e2
        have hgrw := grown_none hlow none
        have g0 := hgrw.cell e0 (by simp)
        have g1 := hgrw.cell e1 (by simp)
        have g2 := hgrw.cell e2 (by simp)
        have g3 := hgrw.cell e3 (by simp)
        clear e0 e1 e2 e3 hgrw hlow
        go_wp2_with (first
          | (go_at_call 17; refine (perform_kc hkc 2 nm' k' t' ok1 ok2 ok3 hn1).mono ?_; rintro e w4 ⟨rfl, A4, G4, hkc4, hact⟩; have HA4 := Lib.hid (first_act (x := ⟨2, nm', k', t'⟩) (isMap_kc hkc).1 (isMap_kc hkc).2 HH.out.1 hact hk hnm hok); have HV := Lib.hid (show Maps.has G4 (gKey nm' k') = (xs.take (j + 1)).any (isGrant k' nm') by rw [HA4.out.2, HH.out.2.1, HTK.out]); clear hact g0 g1 g2 g3; have hgrw := grown_none (hb1.trans (hkc4.b.mono hb1.size)) none; have g0 := hgrw.cell e0'.out (by simp); have g1 := hgrw.cell e1'.out (by simp); have g2 := hgrw.cell e2'.out (by simp); clear hgrw)
          | (go_at_call 12; refine (has_any _ _ _ _ _ _ nm' k' _ hkc4.c hnm hk).mono ?_; rintro e w5 ⟨rfl, hb5⟩; have hkc5 := hkc4.keep hb5; clear hb5; rw [HV.out]))
        go_roundw
        case rel => exact ⟨j + 1, n + 1, m + 1, A4, G4, by omega, by omega, by simp, by omega, by simp, hkc5, HA4.out.1, HV.out, fun _ => hTT⟩
        case measure => simp [intOf]; omega
      · have hmw : (m : Int) < 100 := by omega
        have hmj' : m ≤ j + 1 := by omega
        have hj1 : j + 1 ≤ xs.length := by omega
        have hn2 : n + 1 ≤ j + 1 + 1 := by omega
        have hmeas : xs.length - (j + 1) < xs.length - j := by omega
        clear hmj hnj
        rcases hc with hc | ⟨rfl, hc⟩ | ⟨rfl, rfl, hc⟩ <;> rcases hm with rfl | hm
        all_goals
          first
            | (have hTT := hT (.inl hm); have hmp : (0 : Int) < (m : Int) := by omega)
            | skip
          have e0' := Lib.hid e0
          have e1' := Lib.hid e1
          have e2' := Lib.hid e2
          have HT := Lib.hid hT
          have hgrw := grown_none hlow none
          have g0 := hgrw.cell e0 (by simp)
          have g1 := hgrw.cell e1 (by simp)
          have g2 := hgrw.cell e2 (by simp)
          have g3 := hgrw.cell e3 (by simp)
          clear e0 e1 e2 e3 hgrw hlow hT
          go_wp2_with (first
            | (go_at_call 17; refine (perform_kc hkc _ _ _ _ ok1 ok2 ok3 hn1).mono ?_; rintro e w4 ⟨rfl, A4, G4, hkc4, hact⟩; have HA4 := Lib.hid (first_act (isMap_kc hkc).1 (isMap_kc hkc).2 HH.out.1 hact hk hnm hok); have HV := Lib.hid (hv_of HA4.out.2 HH.out.2.1 HTK.out); clear hact g0 g1 g2 g3; have hgrw := grown_none (hb1.trans (hkc4.b.mono hb1.size)) none; have g0 := hgrw.cell e0'.out (by simp); have g1 := hgrw.cell e1'.out (by simp); have g2 := hgrw.cell e2'.out (by simp); clear hgrw)
            | (go_at_call 12; refine (has_any _ _ _ _ _ _ _ _ _ hkc4.c hnm hk).mono ?_; rintro e w5 ⟨rfl, hb5⟩; have hkc5 := hkc4.keep hb5; clear hb5; rw [HV.out])
            | (go_at_call 18; refine (grantedLaw_any _ (xs.take (j + 1)) _ _ _ (HROW.out _ (hb1.trans (hkc5.b.mono hb1.size))) (by simp; omega)).mono ?_; rintro e w6 ⟨rfl, rfl⟩))
          go_roundw
          case rel => first
            | exact ⟨j + 1, n + 1, m, A4, G4, hj1, hn2, rfl, hmj', by simp, hkc5, HA4.out.1, HV.out, fun h => HT.out (.inl h)⟩
            | exact ⟨j + 1, n + 1, 0, A4, G4, hj1, hn2, rfl, hmj', by simp, hkc5, HA4.out.1, HV.out, fun h => by omega⟩
          case measure => simp [intOf]; omega
    · have hge' : ¬ ((j : Int) < (xs.length : Int)) := by omega
      have hn1 : n < 1000 := by have := HX.out.1; omega
      have HH := Lib.hid (And.intro hh (And.intro hgr hmg))
      clear hh hgr hmg hj hge
      go_wp2_with (first
        | (go_at_call 12; refine (has_any _ _ _ _ _ _ name key _ hkc.c hnm hk).mono ?_; rintro e w4 ⟨rfl, hb4⟩; have hkc4 := hkc.keep hb4; clear hb4)
        | (go_at_call 11; have t := hkc4; refine (grant_old _ _ _ _ _ _ name key _ hkc4.c hnm hk (by omega) HH.out.1.1).mono ?_; rintro e w5 ⟨rfl, hc, hg⟩; have hkc5 := hkc4.grant hc hg; clear hc hg t hkc4)
        | (go_at_call 11; have t := hkc5; refine (grant_old _ _ _ _ _ _ name key _ hkc5.c hnm hk (by omega) HH.out.1.1).mono ?_; rintro e w6 ⟨rfl, hc, hg⟩; have hkc6 := hkc5.grant hc hg; clear hc hg t; have h1 : Maps.has (G2'.put (gKey name key) (.agg [])) (gKey name key) = true := has_put_same (isMap_kc hkc).2 (gKey_isKey _ _) _; rw [h1]; clear hkc5)
        | (go_at_call 16; refine (granted_any _ _ _ _ _ _ name _ hkc6.c hnm (by omega)).mono ?_; rintro e w7 ⟨v, ss, rfl, ⟨hG, hsl⟩, hrow, hnil, hb7⟩; have hkc7 := hkc6.keep hb7; clear hb7 hkc6))
      have hl : ((raw ss).mergeSort leB).length = ss.length := by simp [raw]
      rw [← hl] at hrow
      have hS := strRow_of_owns hrow
      have hhk : Maps.has ((G2'.put (gKey name key) (.agg [])).put (gKey name key) (.agg [])) (gKey name key) = true := has_put_same ((isMap_kc hkc).2.put _ _) (gKey_isKey _ _) _
      obtain ⟨G7, hG7⟩ : ∃ G7, ((G2'.put (gKey name key) (.agg [])).put (gKey name key) (.agg []) : DataW Unit) = G7 := ⟨_, rfl⟩
      rw [hG7] at hkc7 hG hhk hsl
      obtain ⟨L, hL⟩ : ∃ L : List ByteArray, (((raw ss).mergeSort leB).map mkB) = L := ⟨_, rfl⟩
      have hfl := first_list (key := key) hG hL
      rw [hL] at hS
      obtain ⟨B, cb, rfl, hrb⟩ := hS
      have HRB := Lib.hid hrb
      have HF := Lib.hid hfl
      have HK := Lib.hid hhk
      have HLl := Lib.hid (show L.length ≤ 2000000 by rw [← hL, List.length_map, hl]; have := hkc7.c.gm.size_le; omega)
      clear hrb hL hrow hl hnil hfl hhk hG7 hG hsl
      go_loopw [17, 18] (fun b i wr => ∃ (p : Nat) (bb : Bool), p ≤ L.length ∧ b = .bool bb ∧ i = .int .i64 (p : Int) ∧ Below w7.heap.size w7 wr ∧ (bb = true ↔ ∃ q, q < p ∧ L[q]?.getD ByteArray.empty = key)) (fun _ i _ => L.length - (intOf i).toNat)
      case atStart => exact ⟨0, false, Nat.zero_le _, rfl, rfl, Below.refl _ _, by simp⟩
      case round =>
        obtain ⟨p, bb, hp, rfl, rfl, hbr, hbb⟩ := hrel
        have hL2 := HLl.out
        rcases Nat.lt_or_ge p L.length with hlt | hge
        · obtain ⟨gB, rfl, hc⟩ := HRB.out (by omega)
          have hgr2 := grown_none hbr none
          have c0 := hgr2.cell (hc p hlt) (by simp)
          have hi0 : (0 : Int) ≤ (p : Int) := by omega
          have hi1 : (p : Int) < (L.length : Int) := by omega
          have hi2 : (p : Int) + 1 < 9223372036854775807 := by omega
          obtain ⟨hcs, hch⟩ := HF.out.1 p hlt
          have hHas := Lib.hid (fun (x : LaterW wr) => has_yes _ _ _ _ _ _ name (L[p]?.getD ByteArray.empty) x.W ((hkc7.keep hbr).keep x.h).c hnm hcs hch)
          have hc0 := fun (x : LaterW wr) => (grown_none x.h none).cell c0 (by simp)
          have hnx : ∀ b' : Bool, (bb = true → b' = true) → (bb = false → b' = ((L[p]?.getD ByteArray.empty).toList == key.toList)) → (b' = true ↔ ∃ q, q < p + 1 ∧ L[q]?.getD ByteArray.empty = key) := by
            intro b' h1 h2
            constructor
            · intro hb'
              cases bb with
              | true => obtain ⟨q, hq, e⟩ := hbb.1 rfl; exact ⟨q, by omega, e⟩
              | false =>
                refine ⟨p, by omega, ?_⟩
                have h3 := h2 rfl
                rw [hb'] at h3
                by_cases e : L[p]?.getD ByteArray.empty = key
                · exact e
                · rw [toList_beq_false e] at h3; cases h3
            · rintro ⟨q, hq, e⟩
              cases bb with
              | true => exact h1 rfl
              | false =>
                rw [h2 rfl]
                rcases Nat.lt_or_ge q p with h | h
                · have := hbb.2 ⟨q, h, e⟩; cases this
                · obtain rfl : q = p := by omega
                  rw [e]; simp
          have HNX := Lib.hid hnx
          have HBR := Lib.hid hbr
          clear hnx hbb hbr hgr2 hcs hch
          rcases Nat.eq_zero_or_pos p with hp0 | hp0
          · have hp0' : decide ((0 : Int) < (p : Int)) = false := by simp; omega
            have hp0'' : decide (0 < p) = false := by simp; omega
            clear hp0
            cases bb with
            | true =>
              have HV := Lib.hid (HNX.out true (fun _ => rfl) (fun h => by cases h))
              clear HNX
              generalize L[p]?.getD ByteArray.empty = c at *
              go_wp2
              refine wp_region_later (by kernel_rfl) (by kernel_rfl) ?_
              repeat (go_big_quiet_step ((go_at_call 12; refine (hHas.out _).mono ?_; rintro e w9 ⟨rfl, hb9⟩; exact ⟨rfl, ⟨⟨w9, (LaterW.h _).trans (hb9.mono (LaterW.h _).size)⟩, rfl⟩⟩)))
              refine wpQuiet_nil ?_
              rintro _ ⟨x, rfl⟩
              go_wp2
              go_roundw
              case rel => exact ⟨p + 1, _, hlt, rfl, by simp, HBR.out.trans (x.h.mono HBR.out.size), by simpa using HV.out⟩
              case measure => simp [intOf]; omega
            | false =>
              have HV := Lib.hid (HNX.out ((L[p]?.getD ByteArray.empty).toList == key.toList) (fun h => by cases h) (fun _ => rfl))
              clear HNX
              generalize L[p]?.getD ByteArray.empty = c at *
              go_wp2
              refine wp_region_later (by kernel_rfl) (by kernel_rfl) ?_
              repeat (go_big_quiet_step ((go_at_call 12; refine (hHas.out _).mono ?_; rintro e w9 ⟨rfl, hb9⟩; exact ⟨rfl, ⟨⟨w9, (LaterW.h _).trans (hb9.mono (LaterW.h _).size)⟩, rfl⟩⟩)))
              refine wpQuiet_nil ?_
              rintro _ ⟨x, rfl⟩
              go_wp2
              go_roundw
              case rel => exact ⟨p + 1, _, hlt, rfl, by simp, HBR.out.trans (x.h.mono HBR.out.size), by simpa using HV.out⟩
              case measure => simp [intOf]; omega
          · have hp0' : decide ((0 : Int) < (p : Int)) = true := by simp; omega
            have hp0'' : decide (0 < p) = true := by simp; omega
            have hp1 : p - 1 < L.length := by omega
            have c1 := (grown_none HBR.out none).cell (hc (p - 1) hp1) (by simp)
            have hc1 := fun (x : LaterW wr) => (grown_none x.h none).cell c1 (by simp)
            have hless := HF.out.2.1 p hp0 hlt
            have hp2 : (0 : Int) < (p : Int) := by omega
            clear hc
            generalize L[p - 1]?.getD ByteArray.empty = c' at *
            have hgq := geq_less hless
            clear hless
            cases bb with
            | true =>
              have HV := Lib.hid (HNX.out true (fun _ => rfl) (fun h => by cases h))
              clear HNX
              generalize L[p]?.getD ByteArray.empty = c at *
              go_wp2
              refine wp_region_later (by kernel_rfl) (by kernel_rfl) ?_
              repeat (go_big_quiet_step ((go_at_call 12; refine (hHas.out _).mono ?_; rintro e w9 ⟨rfl, hb9⟩; exact ⟨rfl, ⟨⟨w9, (LaterW.h _).trans (hb9.mono (LaterW.h _).size)⟩, rfl⟩⟩)))
              refine wpQuiet_nil ?_
              rintro _ ⟨x, rfl⟩
              go_wp2
              go_roundw
              case rel => exact ⟨p + 1, _, hlt, rfl, by simp, HBR.out.trans (x.h.mono HBR.out.size), by simpa using HV.out⟩
              case measure => simp [intOf]; omega
            | false =>
              have HV := Lib.hid (HNX.out ((L[p]?.getD ByteArray.empty).toList == key.toList) (fun h => by cases h) (fun _ => rfl))
              clear HNX
              generalize L[p]?.getD ByteArray.empty = c at *
              go_wp2
              refine wp_region_later (by kernel_rfl) (by kernel_rfl) ?_
              repeat (go_big_quiet_step ((go_at_call 12; refine (hHas.out _).mono ?_; rintro e w9 ⟨rfl, hb9⟩; exact ⟨rfl, ⟨⟨w9, (LaterW.h _).trans (hb9.mono (LaterW.h _).size)⟩, rfl⟩⟩)))
              refine wpQuiet_nil ?_
              rintro _ ⟨x, rfl⟩
              go_wp2
              go_roundw
              case rel => exact ⟨p + 1, _, hlt, rfl, by simp, HBR.out.trans (x.h.mono HBR.out.size), by simpa using HV.out⟩
              case measure => simp [intOf]; omega
        · have hge' : ¬ ((p : Int) < (L.length : Int)) := by omega
          have hbt : bb = true := hbb.2 (by obtain ⟨q, hq, e⟩ := HF.out.2.2 hk HK.out; exact ⟨q, by omega, e⟩)
          subst hbt
          clear hbb
          go_wp2
          go_ret
          exact ⟨rfl, hb1.trans ((hkc7.b.trans (hbr.mono hkc7.b.size)).mono hb1.size)⟩
end Go.Proofs.Ytneclonahddipaa
