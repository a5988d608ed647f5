/- The law CacheKnown returns true: the walk. -/
import Derived.Test.YtneclonahddipaaKnown
namespace Go.Proofs.Ytneclonahddipaa
open Go.RowKit Go.Maps Go.Sort Go.Shelf

theorem keysRow {w' : World} {B : Nat} {v : Value} {ss : List (List UInt8)} (hp : ss.Perm (strKeys A3)) (hrow : w'.ownsRow B 9 1 v ss.length ((ss.mergeSort leB).map encStr)) : StrRow w' v [sa, sq] := by
  have hl : ss.length = 2 := by have := congrArg List.length (keysSorted hp); simpa using this
  rw [hl, keysSorted hp] at hrow
  exact strRow_of_owns (xs := [[97], [113]]) hrow
theorem annRow {w' : World} {B : Nat} {v : Value} {ss : List ByteArray} (hp : GAll sann G2 ss) (hrow : w'.ownsRow B 9 1 v ss.length (((raw ss).mergeSort leB).map encStr)) : StrRow w' v [sq] := by
  obtain rfl := grantedAnn hp
  have e : (raw [sq]).mergeSort leB = [[113]] := by simp [raw]
  rw [e] at hrow
  exact strRow_of_owns (xs := [[113]]) hrow
theorem lit2 (w : World) (x y : ByteArray) : StrRow (w.alloc (.cells #[.string x, .string y] 9)) (.slice (some ⟨w.heap.size, 0, none⟩) 2 2) [x, y] :=
  ⟨_, 2, rfl, fun _ => ⟨_, rfl, fun i hi => by
    rw [World.cell?_alloc_at _ _ _ _ rfl]
    match i, hi with
    | 0, _ => rfl
    | 1, _ => rfl⟩⟩
theorem lit1 (w : World) (x : ByteArray) : StrRow (w.alloc (.cells #[.string x] 9)) (.slice (some ⟨w.heap.size, 0, none⟩) 1 1) [x] :=
  ⟨_, 1, rfl, fun _ => ⟨_, rfl, fun i hi => by
    rw [World.cell?_alloc_at _ _ _ _ rfl]
    match i, hi with
    | 0, _ => rfl⟩⟩

set_option maxRecDepth 100000 in
set_option maxHeartbeats 4000000 in
theorem known_any (w : World) : Calls Try.prog 3 #[] w fun e w' => e = .returned (.bool true) ∧ Below w.heap.size w w' := by
  have zq : sq.size ≤ maxLen := by decide
  have z5 : s5.size ≤ maxLen := by decide
  have zn : sann.size ≤ maxLen := by decide
  have zb : sbob.size ≤ maxLen := by decide
  have zr : sr.size ≤ maxLen := by decide
  have za : sa.size ≤ maxLen := by decide
  have z0 : s0.size ≤ maxLen := by decide
  have tok1 : True := trivial
  have tok2 : True := trivial
  have tok3 : True := trivial
  go_enter Try.func3, Try.ntmps3
  go_wp2_with (first
    | (go_at_call 8; refine (new_any _).mono ?_; rintro e w1 ⟨rfl, hc, hb⟩; have k0 : Kc w w1 0 D0 D0 := ⟨hc, hb⟩; clear hc hb)
    | (go_at_call 9; have k := k0; refine (get_any _ _ _ _ _ _ sq _ k0.c zq).mono ?_; rintro e w2 ⟨rfl, t, ht, rfl, hat⟩; obtain rfl := str_of_lit (u := s0) (hat.symm.trans rfl); rw [show Maps.has D0 (aKey sq) = false from rfl]; clear hat k)
    | (go_at_call 10; have k := k0; refine (put_new _ _ _ _ _ _ sq s5 _ k0.c zq z5 (by omega) rfl).mono ?_; rintro e w3 ⟨rfl, hc, hg⟩; have k1 : Kc w w3 1 A1 D0 := k0.put hc hg; clear hc hg k0 k)
    | (go_at_call 10; have k := k1; refine (put_same _ _ _ _ _ _ sq s5 _ k1.c zq z5 (by omega) hasA1 atA1).mono ?_; rintro e w4 ⟨rfl, hc, hg⟩; have k2 : Kc w w4 2 A2 D0 := k1.put hc hg; clear hc hg k1 k)
    | (go_at_call 11; have k := k2; refine (grant_old _ _ _ _ _ _ sann sq _ k2.c zn zq (by omega) hasA2).mono ?_; rintro e w5 ⟨rfl, hc, hg⟩; have k3 : Kc w w5 3 A2 G1 := k2.grant hc hg; clear hc hg k2 k; rw [show Maps.has D0 (gKey sann sq) = false from rfl])
    | (go_at_call 11; have k := k3; refine (grant_old _ _ _ _ _ _ sann sq _ k3.c zn zq (by omega) hasA2).mono ?_; rintro e w6 ⟨rfl, hc, hg⟩; have k4 : Kc w w6 4 A2 G2 := k3.grant hc hg; clear hc hg k3 k; rw [hasG1])
    | (go_at_call 11; have k := k4; refine (grant_none _ _ _ _ _ _ sann sr _ k4.c zr hasA2r).mono ?_; rintro e w7 ⟨rfl, rfl⟩; have k5 := k4; clear k4 k)
    | (go_at_call 12; have k := k5; have _t := tok1; refine (has_any _ _ _ _ _ _ sann sq _ k5.c zn zq).mono ?_; rintro e w8 ⟨rfl, hb⟩; have k6 := k5.keep hb; clear hb k5 k tok1 _t; rw [hasG2])
    | (go_at_call 12; have k := k6; refine (has_any _ _ _ _ _ _ sbob sq _ k6.c zb zq).mono ?_; rintro e w9 ⟨rfl, hb⟩; have k7 := k6.keep hb; clear hb k6 k; rw [hasG2_not zb zq (.inl (by decide))])
    | (go_at_call 13; have k := k7; refine (awake_any _).mono ?_; rintro e w10 ⟨rfl, hb⟩; have k8 := k7.keep hb; clear hb k7 k)
    | (go_at_call 10; have k := k8; refine (put_new _ _ _ _ _ _ sa s0 _ k8.c za z0 (by omega) hasA2a).mono ?_; rintro e w11 ⟨rfl, hc, hg⟩; have k9 : Kc w w11 5 A3 G2 := k8.put hc hg; clear hc hg k8 k)
    | (go_at_call 15; have k := k9; refine (keys_any _ _ _ _ _ _ _ k9.c (by omega)).mono ?_; rintro e w12 ⟨v, ss, rfl, hp, hrow, hnil, hb⟩; have k10 := k9.keep hb; have hr1 := keysRow hp hrow; clear hb k9 k hp hrow hnil)
    | (go_at_call 14; have k := k10; refine (same_any _ _ [sa, sq] [sa, sq] _ (hr1.kept (World.grownBy_alloc _ _ _)) (lit2 _ _ _) (by simp) (by simp)).mono ?_; rintro e w13 ⟨rfl, m, rfl⟩; have k11 := (k10.alloc (.cells #[.string sa, .string sq] 9)).draw m; clear k10 k hr1; rw [show decide ([sa, sq] = [sa, sq]) = true by simp])
    | (go_at_call 16; have k := k11; refine (granted_any _ _ _ _ _ _ sann _ k11.c zn (by omega)).mono ?_; rintro e w14 ⟨v2, ss2, rfl, ⟨hG, _⟩, hrow, hnil, hb⟩; have k12 := k11.keep hb; have hr2 := annRow hG hrow; clear hb k11 k hG hrow hnil)
    | (go_at_call 14; have k := k12; refine (same_any _ _ [sq] [sq] _ (hr2.kept (World.grownBy_alloc _ _ _)) (lit1 _ _) (by simp) (by simp)).mono ?_; rintro e w15 ⟨rfl, m2, rfl⟩; have k13 := (k12.alloc (.cells #[.string sq] 9)).draw m2; clear k12 k hr2; rw [show decide ([sq] = [sq]) = true by simp])
    | (go_at_call 16; have k := k13; refine (granted_any _ _ _ _ _ _ sbob _ k13.c zb (by omega)).mono ?_; rintro e w16 ⟨v3, ss3, rfl, ⟨hG, _⟩, hrow, hnil, hb⟩; have k14 := k13.keep hb; obtain rfl := hnil.2 (grantedBob hG); clear hb k13 k hG hrow hnil))
  go_ret
  exact ⟨rfl, k14.b⟩
end Go.Proofs.Ytneclonahddipaa
