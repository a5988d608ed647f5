/- CacheActs: the walk. -/
import Derived.Test.YtneclonahddipaaActsRead
import Derived.Test.YtneclonahddipaaStage
import Derived.Sort.CutIn
namespace Go.Proofs.Ytneclonahddipaa
open Go.RowKit Go.Maps Go.Sort Go.Shelf

/-- The act's own copy. -/
theorem cells39 {w : World} {b : Nat} {c0 c1 c2 c3 : Value} (h : w.heap[b]? = some (.cells #[c0, c1, c2, c3] 39 (0, 0))) : w.cell? ⟨b, 1, none⟩ = some c1 ∧ w.cell? ⟨b, 2, none⟩ = some c2 ∧ w.cell? ⟨b, 3, none⟩ = some c3 := by
  refine ⟨?_, ?_, ?_⟩ <;> (rw [cell_of_row _ _ _ _ _ _ h]; rfl)
def plus : ByteArray := ⟨#[43]⟩
theorem plus_size {s : ByteArray} (h : s.size + 1 ≤ 9223372036854775807) : (s ++ plus).size ≤ maxLen := by
  unfold maxLen; rw [ByteArray.size_append]; have : plus.size = 1 := rfl; omega
/-- What holds where the kinds meet. -/
def Met26 (w : World) (k : Nat) (x : ActV) (j : Nat) (c o : Value) (wc : World) : Prop :=
  ∃ (n b ma mg p : Nat) (A G : DataW Unit) (E : Value) (es : List Ent), n ≤ 3 * j + 3 ∧ c = .pointer (some ⟨b, 0, none⟩) ∧ o = .pointer (some ⟨p, 0, none⟩) ∧ Both w wc b ma mg n p A G E es ∧
    wc.heap[k]? = some (.cells #[.int .i64 x.kd, .string x.nm, .string x.k, .string x.t] 39 (0, 0))

attribute [local go_sem] Oper.semAt_some
set_option maxRecDepth 100000 in
set_option maxHeartbeats 4000000 in
theorem acts_any (va : Value) (xs : List ActV) (w : World) (ha : ActRow w va xs) (hsz : ∀ i, i < xs.length → (xs[i]?.getD default).nm.size + 1 ≤ 9223372036854775807 ∧ (xs[i]?.getD default).k.size + 1 ≤ 9223372036854775807) :
    Calls Try.prog 6 #[va] w fun e w' => e = .returned (.bool true) ∧ Below w.heap.size w w' := by
  obtain ⟨A, ca, rfl, hra⟩ := ha
  refine (callsIn_wide (n := 6)).1 ?_
  have h1 : 1 ≤ 6 := by omega
  refine callsIn_of_wp Try.func6 rfl trivial ?_ rfl
  simp only [Try.ntmps6, List.size_toArray, List.length_cons, List.length_nil, Nat.reduceAdd, Nat.reduceSub, Array.replicate_succ, Array.replicate_zero, List.push_toArray, List.append_toArray, List.nil_append, List.cons_append]
  by_cases hx : 60 < xs.length
  · have hx' : (60 : Int) < (xs.length : Int) := by omega
    gi_wp2_with (refine ⟨trivial, ?_⟩; gi_at_call 13; refine (callsIn_wide.2 (awake_any _)).mono ?_; rintro e w1 ⟨rfl, hb⟩)
    go_ret
    exact ⟨rfl, hb⟩
  have hx' : ¬ (60 : Int) < (xs.length : Int) := by omega
  have HRA := Lib.hid hra
  have HX := Lib.hid hx
  have HSZ := Lib.hid hsz
  clear hra hx hsz
  gi_wp2_with (first
    | (refine ⟨trivial, ?_⟩; gi_at_call 8; refine (callsIn_wide.2 (new_any2 _)).mono ?_; rintro e w1 ⟨rfl, hc1, hb1⟩)
    | (refine ⟨trivial, ?_⟩; gi_at_call 19; refine (callsIn_wide.2 (newRef_any w.heap.size _ hb1.size)).mono ?_; rintro e w2 ⟨rfl, hr2, hb2⟩))
  have B0 : Both w w2 (w.heap.size + 1 + 1) w.heap.size (w.heap.size + 1) 0 w1.heap.size (.map []) (.map []) (.slice none 0 0) [] := by
    have hg := grown_none hb2 none
    exact ⟨hc1.1.kept hg (by simp) (by simp) (by simp), (hb2.block _ (Array.getElem?_eq_some_iff.1 hc1.2).1).trans hc1.2, hr2, RelE.nil, hb1.trans (hb2.mono hb1.size), by omega, by omega, by omega, hb1.size, by simp, fun e h => by simp at h⟩
  gi_loopw [3, 4, 5] (fun c o i wr => ∃ (j n b ma mg p : Nat) (A G : DataW Unit) (E : Value) (es : List Ent), j ≤ xs.length ∧ n ≤ 3 * j ∧ c = .pointer (some ⟨b, 0, none⟩) ∧ o = .pointer (some ⟨p, 0, none⟩) ∧ i = .int .i64 (j : Int) ∧ Both w wr b ma mg n p A G E es) (fun _ _ i _ => xs.length - (intOf i).toNat)
  case atStart => exact ⟨0, 0, _, _, _, _, _, _, _, _, Nat.zero_le _, Nat.le_refl _, rfl, rfl, rfl, B0⟩
  case round =>
    obtain ⟨j, n, b, ma, mg, p, A1, G1, E1, es, hj, hnj, rfl, rfl, rfl, hbo⟩ := hrel
    clear B0 hc1 hr2
    rcases Nat.lt_or_ge j xs.length with hlt | hge
    · obtain ⟨g, off, rfl, hc⟩ := HRA.out (by omega)
      obtain ⟨⟨e0, e1, e2, e3⟩, ok1, ok2, ok3⟩ := hc j hlt
      obtain ⟨sz1, sz2⟩ := HSZ.out j hlt
      clear hc
      generalize xs[j]?.getD default = x at *
      have hgr := grown_none hbo.below none
      have g0 := hgr.cell e0 (by simp)
      have g1 := hgr.cell e1 (by simp)
      have g2 := hgr.cell e2 (by simp)
      have g3 := hgr.cell e3 (by simp)
      have hi0 : (0 : Int) ≤ (j : Int) := by omega
      have hi1 : (j : Int) < (xs.length : Int) := by omega
      have hn1 : n < 1000000 := by have := HX.out; omega
      clear e0 e1 e2 e3 hgr
      gi_upto_region 10 with fail
      iterate 10 (first | go_values | gi_guarded | gi_step | gi_upon | gi_back | go_simp)
      have hX : (wr.alloc (.cells #[.int .i64 x.kd, .string x.nm, .string x.k, .string x.t] 39)).heap[wr.heap.size]? = some (.cells #[.int .i64 x.kd, .string x.nm, .string x.k, .string x.t] 39 (0, 0)) := heap_alloc_new wr _
      have hb1 : Both w (wr.alloc (.cells #[.int .i64 x.kd, .string x.nm, .string x.k, .string x.t] 39)) b ma mg n p A1 G1 E1 es := hbo.later (by go_grown)
      obtain ⟨y1, y2, y3⟩ := cells39 hX
      gi_cut [3, 4] from 175 (fun c o wc => Met26 w wr.heap.size x j c o wc)
      case first =>
        by_cases k01 : x.kd = 0 ∨ x.kd = 1
        · have hk01 : (x.kd == 0) = true ∨ ((x.kd == 0) = false ∧ (x.kd == 1) = true) := by
            rcases k01 with e | e
            · exact .inl (by simpa using e)
            · exact .inr ⟨by simp [e], by simpa using e⟩
          have hmx : Try.prog.follows .mixedOrders = true := by kernel_rfl
          have HB1 := Lib.hid hb1
          clear k01
          rcases hk01 with e0 | ⟨e0, e1⟩
          all_goals
            gi_wp2
            refine wpIn_stage (IsSame (wr.alloc (.cells #[.int .i64 x.kd, .string x.nm, .string x.k, .string x.t] 39)) (fun k => k = wr.heap.size)) [0, 1, 2, 3, 4, 6, 7, 8, 9, 10, 12] [] hmx (by kernel_rfl) (isSame_of fun _ _ => rfl) ?_
            change wpStage _ _ _ _ _ _ _ _ (3 + 10) _ _ _
            refine stage_reads [0, 1, 2, 3, 4, 6, 7, 8, 9, 10] 3 _ _ (by kernel_rfl) ?_
            change wpQuietIn _ _ _ _ (fun W => ∃ x' : SameAt (wr.alloc (.cells #[.int .i64 x.kd, .string x.nm, .string x.k, .string x.t] 39)) (fun k => k = wr.heap.size), W = x'.W) _ _ _
            have X2 : ∀ X : SameAt (wr.alloc (.cells #[.int .i64 x.kd, .string x.nm, .string x.k, .string x.t] 39)) (fun k => k = wr.heap.size), X.W.cell? ⟨wr.heap.size, 2, none⟩ = some (.string x.k) := fun X => X.cell rfl (cells4 wr _ _ _ _ 39).2.2.1
            have X3 : ∀ X : SameAt (wr.alloc (.cells #[.int .i64 x.kd, .string x.nm, .string x.k, .string x.t] 39)) (fun k => k = wr.heap.size), X.W.cell? ⟨wr.heap.size, 3, none⟩ = some (.string x.t) := fun X => X.cell rfl (cells4 wr _ _ _ _ 39).2.2.2
            simp only [pick_cons, pick_nil, List.getElem?_cons_zero, List.getElem?_cons_succ, Option.elim_some]
            repeat (gi_big_quiet_step (fail))
            refine wpQuietIn_nil ?_
            clear X2 X3
            refine stage_one 5 (by kernel_rfl) rfl ?_
            have hb2 : Both w ((wr.alloc (.cells #[.int .i64 x.kd, .string x.nm, .string x.k, .string x.t] 39)).drew) b ma mg n p A1 G1 E1 es := HB1.out.later (by go_grown)
            have hX2 : ((wr.alloc (.cells #[.int .i64 x.kd, .string x.nm, .string x.k, .string x.t] 39)).drew).heap[wr.heap.size]? = some (.cells #[.int .i64 x.kd, .string x.nm, .string x.k, .string x.t] 39 (0, 0)) := heap_alloc_new wr _
            gi_wp2_with (refine ⟨trivial, ?_⟩; gi_at_call 10; refine (callsIn_wide.2 (put_both hb2 x.k x.t ok2 ok3 hn1)).mono ?_; rintro e w3 ⟨rfl, A2, hc3, hx3, hr3, hbl3, hrel3, hk3⟩)
            refine stage_post (isSame_of fun k hk => by rw [hk, hk3 _ _ hX2]; exact hX2.symm) ?_
            refine stage_one 11 (by kernel_rfl) rfl ?_
            gi_wp2_with (refine ⟨trivial, ?_⟩; gi_at_call 20; refine (callsIn_wide.2 (putRef_both x.k x.t ok2 ok3 hn1 hc3 hx3 hr3 hbl3 hrel3 ⟨hb2.hb, hb2.ha, hb2.hg, hb2.hp⟩ hb2.le hb2.names)).mono ?_; rintro e w4 ⟨rfl, E4, hb4, hk4⟩)
            refine stage_post (isSame_of fun k hk => by rw [hk, hk4 _ _ (hk3 _ _ hX2)]; exact hX2.symm) ?_
            change wpStage _ _ _ _ _ _ _ _ (0 + 1) _ _ _
            refine stage_reads [12] 0 _ _ (by kernel_rfl) ?_
            change wpQuietIn _ _ _ _ (fun W => ∃ x' : SameAt (wr.alloc (.cells #[.int .i64 x.kd, .string x.nm, .string x.k, .string x.t] 39)) (fun k => k = wr.heap.size), W = x'.W) _ _ _
            simp only [pick_cons, pick_nil, List.getElem?_cons_zero, List.getElem?_cons_succ, Option.elim_some]
            generalize putAns es x.k x.t = ans at *
            repeat (gi_big_quiet_step (fail))
            refine wpQuietIn_nil ?_
            refine stage_done (by kernel_rfl) ?_
            have HB4 := Lib.hid hb4
            clear hb4 hc3 hx3 hr3 hbl3 hrel3
            gi_wp2
            gi_meet
            case rel => exact ⟨_, _, _, _, _, _, _, _, _, by omega, rfl, rfl, HB4.out, hk4 _ _ (hk3 _ _ hX2)⟩
        · have n0 : (x.kd == 0) = false := by simpa using fun e => k01 (.inl e)
          have n1 : (x.kd == 1) = false := by simpa using fun e => k01 (.inr e)
          clear k01
          by_cases k23 : x.kd = 2 ∨ x.kd = 3
          · have hk23 : (x.kd == 2) = true ∨ ((x.kd == 2) = false ∧ (x.kd == 3) = true) := by
              rcases k23 with e | e
              · exact .inl (by simpa using e)
              · exact .inr ⟨by simp [e], by simpa using e⟩
            clear k23
            have HB1 := Lib.hid hb1
            rcases hk23 with e0 | ⟨e0, e1⟩
            all_goals
              gi_upto_region 19 with (first
                | (refine ⟨trivial, ?_⟩; gi_at_call 11; refine (callsIn_wide.2 (grant_both HB1.out x.nm x.k ok1 ok2 hn1)).mono ?_; rintro e w3 ⟨rfl, G2, hc3, hx3, hr3, hbl3, rfl, hk3⟩; have hX3 := hk3 _ _ hX; obtain ⟨z1, z2, z3⟩ := cells39 hX3)
                | (refine ⟨trivial, ?_⟩; gi_at_call 21; refine (callsIn_wide.2 (grantRef_both x.nm x.k ok1 ok2 hn1 HB1.out.c.gm.isMap HB1.out.rel hc3 hx3 hr3 hbl3 ⟨HB1.out.hb, HB1.out.ha, HB1.out.hg, HB1.out.hp⟩ HB1.out.le HB1.out.names)).mono ?_; rintro e w4 ⟨rfl, es4, hb4, hk4⟩))
              have HM : Met26 w wr.heap.size x j (.pointer (some ⟨b, 0, none⟩)) (.pointer (some ⟨p, 0, none⟩)) w4 := ⟨_, _, _, _, _, _, _, _, _, by omega, rfl, rfl, hb4, hk4 _ _ (hk3 _ _ hX)⟩
              clear hb4 hc3 hx3 hr3 hbl3
              generalize grantNew es x.nm x.k = gb at *
              generalize errOf es x.k = ge at *
              have hg1 : (gb != gb) = false := by simp
              have hg2 : (ge != ge) = false := by simp
              gi_wp2
              gi_meet
              case rel => exact HM
          · have n2 : (x.kd == 2) = false := by simpa using fun e => k23 (.inl e)
            have n3 : (x.kd == 3) = false := by simpa using fun e => k23 (.inr e)
            clear k23
            by_cases k4 : (x.kd == 4) = true
            · have HB1 := Lib.hid hb1
              gi_wp2_with (first
                | (refine ⟨trivial, ?_⟩; gi_at_call 22; refine (callsIn_wide.2 (copy_both HB1.out)).mono ?_; rintro e w3 ⟨nb, ma', mg', rfl, hb3, hold, hd3, hk3⟩; have hX3 := hk3 _ _ hX; obtain ⟨z1, z2, z3⟩ := cells39 hX3)
                | (refine ⟨trivial, ?_⟩; gi_at_call 10; refine (callsIn_wide.2 (put_free hold (x.k ++ plus) ByteArray.empty (plus_size sz2) (by decide) hn1)).mono ?_; rintro e w4 ⟨px, A4, rfl, hold4, hg4⟩; have hb4 := hb3.far hold.am hd3.1 hd3.2.1 HB1.out.ha hg4; have hX4 := Keep39.map hold.am hg4 _ _ hX3; obtain ⟨v1, v2, v3⟩ := cells39 hX4)
                | (refine ⟨trivial, ?_⟩; gi_at_call 11; refine (callsIn_wide.2 (grant_free hold4 (x.nm ++ plus) x.k (plus_size sz1) ok2 (by omega))).mono ?_; rintro e w5 ⟨r5, g5, G5, rfl, hold5, hg5⟩; have hb5 := hb4.far hold4.gm hd3.2.2.1 hd3.2.2.2 HB1.out.hg hg5; have hX5 := Keep39.map hold4.gm hg5 _ _ hX4)
                | (refine ⟨trivial, ?_⟩; gi_at_call 23; refine (callsIn_wide.2 (copyRef_both hb5 (by omega))).mono ?_; rintro e w6 ⟨p6, E6, es6, rfl, hb6, hk6⟩))
              gi_meet
              case rel => exact ⟨_, _, _, _, _, _, _, _, _, by omega, rfl, rfl, hb6, hk6 _ _ hX5⟩
            · have n4 : (x.kd == 4) = false := by simpa using k4
              clear k4
              gi_wp2
              gi_meet
              case rel => exact ⟨_, _, _, _, _, _, _, _, _, by omega, rfl, rfl, hb1, hX⟩
      case rest =>
        clear hX hb1 y1 y2 y3 hbo
        obtain ⟨n5, b5, ma5, mg5, p5, A5, G5, E5, es5, hn5, rfl, rfl, hb5, hX5⟩ := hcut
        obtain ⟨y1, y2, y3⟩ := cells39 hX5
        have hn6 : n5 ≤ 1000000 := by have := HX.out; omega
        have hn7 : n5 ≤ 3 * (j + 1) := by omega
        clear hn5
        have HB5 := Lib.hid hb5
        clear hb5
        gi_upto_region 28 with (first
          | (refine ⟨trivial, ?_⟩; gi_at_call 9; refine (callsIn_wide.2 (get_both HB5.out x.k ok2)).mono ?_; rintro e w4 ⟨rfl, rfl⟩)
          | (refine ⟨trivial, ?_⟩; gi_at_call 24; refine (callsIn_wide.2 (getRef_both HB5.out x.k hn6)).mono ?_; rintro e w4 ⟨rfl, rfl⟩))
        generalize textOf es5 x.k = tt at *
        generalize isOf es5 x.k = ii at *
        obtain ⟨wq, hwq⟩ : ∃ wq : World, wq = wc := ⟨_, rfl⟩
        subst hwq
        have hmx : Try.prog.follows .mixedOrders = true := by kernel_rfl
        refine wpIn_stage (IsSame wq (fun k => k = wr.heap.size)) [0, 1, 2, 3, 4, 5, 6, 7, 8, 9, 10, 11, 12, 13, 15, 16, 17, 18, 19, 21, 22, 23, 24, 25, 26, 27, 28, 29, 31, 32, 33, 34, 35, 36, 38, 39, 40, 41, 43, 46, 47, 48, 49, 50, 51, 53, 54, 55, 58, 59] [] hmx (by kernel_rfl) (isSame_of fun _ _ => rfl) ?_
        have X1 : ∀ X : SameAt wq (fun k => k = wr.heap.size), X.W.cell? ⟨wr.heap.size, 1, none⟩ = some (.string x.nm) := fun X => X.cell rfl y1
        have X2 : ∀ X : SameAt wq (fun k => k = wr.heap.size), X.W.cell? ⟨wr.heap.size, 2, none⟩ = some (.string x.k) := fun X => X.cell rfl y2
        have htt : (tt.toList == tt.toList) = true := by simp
        have htn : (!(tt.toList == tt.toList)) = false := by simp
        have hii : (ii == ii) = true := by simp
        have hin : (ii != ii) = false := by simp
        change wpStage _ _ _ _ _ _ _ _ (41 + 19) _ _ _
        refine stage_reads [0, 1, 2, 3, 4, 5, 6, 7, 8, 9, 10, 11, 12, 13, 15, 16, 17, 18, 19] 41 _ _ (by kernel_rfl) ?_
        change wpQuietIn _ _ _ _ (fun W => ∃ x' : SameAt wq (fun k => k = wr.heap.size), W = x'.W) _ _ _
        simp only [pick_cons, pick_nil, List.getElem?_cons_zero, List.getElem?_cons_succ, Option.elim_some]
        repeat (gi_big_quiet_step (fail))
        refine wpQuietIn_nil ?_
        have hb6 : Both w wq.drew b5 ma5 mg5 n5 p5 A5 G5 E5 es5 := HB5.out.later (by go_grown)
        have hX6 : wq.drew.heap[wr.heap.size]? = _ := hX5
        refine stage_one 14 (by kernel_rfl) rfl ?_
        gi_wp2_with (refine ⟨trivial, ?_⟩; gi_at_call 12; refine (callsIn_wide.2 (has_both hb6 x.nm x.k ok1 ok2)).mono ?_; rintro e w7 ⟨rfl, hb7, hk7⟩)
        have hX7 := hk7 _ _ hX6
        refine stage_post (isSame_of fun k hk => by rw [hk, hX7]; exact hX5.symm) ?_
        refine stage_one 20 (by kernel_rfl) rfl ?_
        gi_wp2_with (refine ⟨trivial, ?_⟩; gi_at_call 25; refine (callsIn_wide.2 (hasRef_both hb7 x.nm x.k hn6)).mono ?_; rintro e w8 ⟨rfl, rfl⟩)
        refine stage_post (isSame_of fun k hk => by rw [hk, hX7]; exact hX5.symm) ?_
        generalize hasOf es5 x.nm x.k = v1 at *
        have hv1 : (v1 != v1) = false := by simp
        change wpStage _ _ _ _ _ _ _ _ (24 + 15) _ _ _
        refine stage_reads [21, 22, 23, 24, 25, 26, 27, 28, 29, 31, 32, 33, 34, 35, 36] 24 _ _ (by kernel_rfl) ?_
        change wpQuietIn _ _ _ _ (fun W => ∃ x' : SameAt wq (fun k => k = wr.heap.size), W = x'.W) _ _ _
        simp only [pick_cons, pick_nil, List.getElem?_cons_zero, List.getElem?_cons_succ, Option.elim_some]
        repeat (gi_big_quiet_step (fail))
        refine wpQuietIn_nil ?_
        refine stage_one 30 (by kernel_rfl) rfl ?_
        gi_wp2_with (refine ⟨trivial, ?_⟩; gi_at_call 12; refine (callsIn_wide.2 (has_both hb7 (x.nm ++ plus) x.k (plus_size sz1) ok2)).mono ?_; rintro e w9 ⟨rfl, hb9, hk9⟩)
        have hX9 := hk9 _ _ hX7
        refine stage_post (isSame_of fun k hk => by rw [hk, hX9]; exact hX5.symm) ?_
        refine stage_one 37 (by kernel_rfl) rfl ?_
        gi_wp2_with (refine ⟨trivial, ?_⟩; gi_at_call 25; refine (callsIn_wide.2 (hasRef_both hb9 (x.nm ++ plus) x.k hn6)).mono ?_; rintro e w8 ⟨rfl, rfl⟩)
        refine stage_post (isSame_of fun k hk => by rw [hk, hX9]; exact hX5.symm) ?_
        generalize hasOf es5 (x.nm ++ plus) x.k = v2 at *
        have hv2 : (v2 != v2) = false := by simp
        change wpStage _ _ _ _ _ _ _ _ (17 + 5) _ _ _
        refine stage_reads [38, 39, 40, 41, 43] 17 _ _ (by kernel_rfl) ?_
        change wpQuietIn _ _ _ _ (fun W => ∃ x' : SameAt wq (fun k => k = wr.heap.size), W = x'.W) _ _ _
        simp only [pick_cons, pick_nil, List.getElem?_cons_zero, List.getElem?_cons_succ, Option.elim_some]
        repeat (gi_big_quiet_step (fail))
        refine wpQuietIn_nil ?_
        refine stage_one 42 (by kernel_rfl) rfl ?_
        gi_wp2_with (refine ⟨trivial, ?_⟩; gi_at_call 15; refine (callsIn_wide.2 (keys_both hb9 hn6)).mono ?_; rintro e w10 ⟨k1, rfl, hr1, hb10, hk10⟩)
        have hX10 := hk10 _ _ hX9
        refine stage_post (isSame_of fun k hk => by rw [hk, hX10]; exact hX5.symm) ?_
        refine stage_one 44 (by kernel_rfl) rfl ?_
        gi_wp2_with (refine ⟨trivial, ?_⟩; gi_at_call 26; refine (callsIn_wide.2 (keysRef_both hb10 hr1 hn6)).mono ?_; rintro e w11 ⟨k2, rfl, hs1, hs2, hb11, hk11⟩)
        have hX11 := hk11 _ _ hX10
        refine stage_post (isSame_of fun k hk => by rw [hk, hX11]; exact hX5.symm) ?_
        refine stage_one 45 (by kernel_rfl) rfl ?_
        gi_wp2_with (refine ⟨trivial, ?_⟩; gi_at_call 14; refine (callsIn_wide.2 (same_both hb11 hs1 hs2 (by rw [List.length_map]; have := HB5.out.le; omega))).mono ?_; rintro e w12 ⟨rfl, hb12, hk12⟩)
        have hX12 := hk12 _ _ hX11
        refine stage_post (isSame_of fun k hk => by rw [hk, hX12]; exact hX5.symm) ?_
        change wpStage _ _ _ _ _ _ _ _ (5 + 9) _ _ _
        refine stage_reads [46, 47, 48, 49, 50, 51, 53, 54, 55] 5 _ _ (by kernel_rfl) ?_
        change wpQuietIn _ _ _ _ (fun W => ∃ x' : SameAt wq (fun k => k = wr.heap.size), W = x'.W) _ _ _
        simp only [pick_cons, pick_nil, List.getElem?_cons_zero, List.getElem?_cons_succ, Option.elim_some]
        repeat (gi_big_quiet_step (fail))
        refine wpQuietIn_nil ?_
        refine stage_one 52 (by kernel_rfl) rfl ?_
        gi_wp2_with (refine ⟨trivial, ?_⟩; gi_at_call 16; refine (callsIn_wide.2 (granted_both hb12 x.nm ok1 hn6)).mono ?_; rintro e w13 ⟨k3, rfl, hr3, hb13, hk13⟩)
        have hX13 := hk13 _ _ hX12
        refine stage_post (isSame_of fun k hk => by rw [hk, hX13]; exact hX5.symm) ?_
        refine stage_one 56 (by kernel_rfl) rfl ?_
        gi_wp2_with (refine ⟨trivial, ?_⟩; gi_at_call 27; refine (callsIn_wide.2 (grantedRef_both hb13 x.nm hr3 hn6)).mono ?_; rintro e w14 ⟨k4, rfl, hs3, hs4, hb14, hk14⟩)
        have hX14 := hk14 _ _ hX13
        refine stage_post (isSame_of fun k hk => by rw [hk, hX14]; exact hX5.symm) ?_
        refine stage_one 57 (by kernel_rfl) rfl ?_
        gi_wp2_with (refine ⟨trivial, ?_⟩; gi_at_call 14; refine (callsIn_wide.2 (same_both hb14 hs3 hs4 (by have := grantedL_length es5 x.nm; have := HB5.out.le; omega))).mono ?_; rintro e w15 ⟨rfl, hb15, hk15⟩)
        have hX15 := hk15 _ _ hX14
        refine stage_post (isSame_of fun k hk => by rw [hk, hX15]; exact hX5.symm) ?_
        change wpStage _ _ _ _ _ _ _ _ (0 + 2) _ _ _
        refine stage_reads [58, 59] 0 _ _ (by kernel_rfl) ?_
        change wpQuietIn _ _ _ _ (fun W => ∃ x' : SameAt wq (fun k => k = wr.heap.size), W = x'.W) _ _ _
        simp only [pick_cons, pick_nil, List.getElem?_cons_zero, List.getElem?_cons_succ, Option.elim_some]
        repeat (gi_big_quiet_step (fail))
        refine wpQuietIn_nil ?_
        refine stage_done (by kernel_rfl) ?_
        have HB15 := Lib.hid hb15
        clear X1 X2 htt htn hii hin hb6 hb7 hb9 hb10 hb11 hb12 hb13 hb14 hb15 hr1 hs1 hs2 hr3 hs3 hs4
        gi_wp2
        go_roundw
        case rel => exact ⟨j + 1, n5, _, _, _, _, _, _, _, _, by omega, by omega, rfl, rfl, by go_num, HB15.out⟩
        case measure => simp [intOf]; omega
    · have hge' : ¬ ((j : Int) < (xs.length : Int)) := by omega
      have HB := Lib.hid hbo
      clear hj hge hbo
      gi_wp2_with (refine ⟨trivial, ?_⟩; gi_at_call 13; refine (callsIn_wide.2 (awake_any _)).mono ?_; rintro e w3 ⟨rfl, hb3⟩)
      go_ret
      exact ⟨rfl, HB.out.below.trans (hb3.mono HB.out.below.size)⟩
end Go.Proofs.Ytneclonahddipaa
