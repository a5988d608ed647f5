/- Facts for CacheFirst. -/
import Derived.Test.YtneclonahddipaaGrantLaw
namespace Go.Proofs.Ytneclonahddipaa
open Go.RowKit Go.Maps Go.Sort Go.Shelf

theorem first_act {A G A' G' : DataW Unit} {key f name : ByteArray} {x : ActV} (hA : IsMap A) (hG : IsMap G) (h : Holds1 A key f) (hact : ActTo x.kd x.nm x.k x.t A G A' G') (hk : key.size ≤ maxLen) (hn : name.size ≤ maxLen) (hok : ActOk x) :
    Holds1 A' key f ∧ Maps.has G' (gKey name key) = (Maps.has G (gKey name key) || isGrant key name x) := by
  rcases hact with ⟨hkd, rfl, y, hp⟩ | ⟨hkd, rfl, r, y, hp⟩ | ⟨⟨_, _, k2, k3⟩, rfl, rfl⟩
  · refine ⟨holds_put hA h hp hk hok.2.1, ?_⟩
    have : isGrant key name x = false := by rcases hkd with e | e <;> simp [isGrant, e]
    simp [this]
  · refine ⟨h, ?_⟩
    have hb : (x.kd == 2 || x.kd == 3) = true := by rcases hkd with e | e <;> simp [e]
    rcases hp with ⟨_, rfl, _⟩ | ⟨hno, rfl, _⟩
    · by_cases e : gKey name key = gKey x.nm x.k
      · obtain ⟨e1, e2⟩ := gKey_inj hn hk hok.1 hok.2.1 e
        have : isGrant key name x = true := by unfold isGrant; rw [hb]; simp [e1, e2]
        rw [this, e, has_put_same hG (gKey_isKey _ _)]
        simp
      · have : isGrant key name x = false := by
          unfold isGrant
          rw [hb]
          by_cases h1 : x.k = key
          · by_cases h2 : x.nm = name
            · exact absurd (by rw [h1, h2]) e
            · simp [h2]
          · simp [h1]
        rw [this, has_put_other e]
        simp
    · have : isGrant key name x = false := by
        unfold isGrant
        by_cases h1 : x.k = key
        · rw [h1, h.1] at hno; cases hno
        · simp [h1]
      simp [this]
  · have : isGrant key name x = false := by simp [isGrant, k2, k3]
    exact ⟨h, by simp [this]⟩

theorem take_any_succ {p : ActV → Bool} {xs : List ActV} {j : Nat} (hj : j < xs.length) : (xs.take (j + 1)).any p = ((xs.take j).any p || p (xs[j]?.getD default)) := by
  rw [List.take_add_one, List.any_append]
  simp [hj]

theorem actRow_take {w : World} {g off cap n : Nat} {xs : List ActV} (h : ActRow w (.slice (some ⟨g, off, none⟩) xs.length cap) xs) (c : Nat) (hn : n ≤ xs.length) : ActRow w (.slice (some ⟨g, off, none⟩) n c) (xs.take n) := by
  obtain ⟨A, cap', e, hr⟩ := h
  have hl : (xs.take n).length = n := by simp [hn]
  refine ⟨some ⟨g, off, none⟩, c, by rw [hl], fun h0 => ⟨g, off, rfl, fun i hi => ?_⟩⟩
  rw [hl] at hi
  obtain ⟨g', off', e', hc⟩ := hr (by omega)
  have e1 : A = some ⟨g, off, none⟩ := by simpa using (congrArg (fun v => match v with | Value.slice a _ _ => a | _ => none) e).symm
  rw [e1] at e'
  simp only [Option.some.injEq, Addr.mk.injEq] at e'
  obtain ⟨rfl, rfl, _⟩ := e'
  have := hc i (by omega)
  rw [List.getElem?_take_of_lt hi]
  exact this

theorem ActRow.kept {w w' : World} {v : Value} {xs : List ActV} (h : ActRow w v xs) (hg : w.grownBy w' none) : ActRow w' v xs := by
  obtain ⟨A, cap, rfl, hr⟩ := h
  exact ⟨A, cap, rfl, fun h0 => by
    obtain ⟨g, off, rfl, hc⟩ := hr h0
    exact ⟨g, off, rfl, fun i hi => ⟨⟨hg.cell (hc i hi).1.1 (by simp), hg.cell (hc i hi).1.2.1 (by simp), hg.cell (hc i hi).1.2.2.1 (by simp), hg.cell (hc i hi).1.2.2.2 (by simp)⟩, (hc i hi).2⟩⟩⟩

abbrev st : ByteArray := ⟨#[116]⟩
end Go.Proofs.Ytneclonahddipaa
