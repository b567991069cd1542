/- Plain: the chapter's example, knights out and back; the square that may be taken over, reckoned by the kernel. -/
import Derived.Test.YtdmgimfgoajmjaaGreatDoorC39
import Derived.Test.YtdmgimfgoajmjaaGreatDoorC40
import Derived.Test.YtdmgimfgoajmjaaGreatDoorC42
set_option linter.unusedVariables false
set_option linter.unusedSimpArgs false
namespace Go.Proofs.YtdmgimfgoajmjaaGreatDoor
theorem isB_of {p : Pos} {m : Mv} (h : positionB p = true) (h1 : (rAllL p).contains m = true) (h2 : legalB p m = true) : isB p m = true := by
  unfold isB movesP
  rw [if_pos h, List.any_eq_true]
  refine ⟨m, ?_, by simp⟩
  unfold legalL
  rw [List.mem_filter, All_eq]
  exact ⟨by simpa using h1, h2⟩
theorem playR_one {p : Pos} {m : Mv} (h : positionB p = true) (h1 : (rAllL p).contains m = true) (h2 : legalB p m = true) : playR p [m] = (movedP p m, 0) := by
  unfold playR
  rw [if_pos h]
  unfold playGo
  rw [if_pos (isB_of h h1 h2)]
  rfl
def awM (i : Nat) : Mv := [⟨6, 21, 0⟩, ⟨62, 45, 0⟩, ⟨21, 6, 0⟩, ⟨45, 62, 0⟩].getD i ⟨0, 0, 0⟩
def aw : Nat → Pos
  | 0 => startP
  | i + 1 => movedP (aw i) (awM i)
def awL (k : Nat) : List Pos := (List.range (k + 1)).map aw
theorem awL_succ (k : Nat) : awL (k + 1) = awL k ++ [aw (k + 1)] := by unfold awL; rw [List.range_succ (n := k + 1), List.map_append]; rfl
set_option maxRecDepth 100000
theorem aw_play {i : Nat} (h : i < 4) : playR (aw i) [awM i] = (aw (i + 1), 0) := by
  have e : ∀ i < 4, positionB (aw i) = true ∧ (rAllL (aw i)).contains (awM i) = true ∧ legalB (aw i) (awM i) = true := by decide +kernel
  obtain ⟨h1, h2, h3⟩ := e i h
  exact playR_one h1 h2 h3
theorem aw_many {i : Nat} (h : i < 4) : manyB (awL i) (aw (i + 1)) + 1 = 1 + i / 3 := by
  have e : ∀ i < 4, manyB (awL i) (aw (i + 1)) + 1 = 1 + i / 3 := by decide +kernel
  exact e i h
theorem aw_most : mostB (awL 4) = 2 := by decide +kernel
theorem aw_start : manyB (awL 4) startP = 2 := by decide +kernel
def inIB (n : Int) : Bool := decide (-9223372036854775808 ≤ n ∧ n ≤ 9223372036854775807)
def rngB (p : Pos) : Bool := (List.range 64).all (fun i => inIB (p.kind i) && inIB (p.side i)) && (inIB p.turn && inIB p.castle && inIB p.over)
theorem rng_of {p : Pos} (h : rngB p = true) : Rng p := by
  unfold rngB at h
  simp only [Bool.and_eq_true, List.all_eq_true, List.mem_range, inIB, decide_eq_true_eq] at h
  exact ⟨fun i hi => (h.1 i hi).1, fun i hi => (h.1 i hi).2, h.2.1.1, h.2.1.2, h.2.2⟩
theorem aw_rng {i : Nat} (h : i < 5) : Rng (aw i) := by
  have e : ∀ i < 5, rngB (aw i) = true := by decide +kernel
  exact rng_of (e i h)
theorem awL_rng {k : Nat} (h : k < 5) : ∀ p ∈ awL k, Rng p := by
  intro p hp
  obtain ⟨i, hi, rfl⟩ := List.mem_map.1 hp
  exact aw_rng (by have := List.mem_range.1 hi; omega)
theorem overA_k (p : Pos) : overA p = if p.over = -1 then -1 else if (positionB p && (rAllL p).any fun m => overM p m && legalB p m) = true then p.over else -1 := by
  unfold overA movesP
  by_cases h : positionB p = true
  · rw [if_pos h]
    unfold legalL
    rw [List.any_filter, All_eq, h, Bool.true_and]
    congr 4
    funext x
    exact Bool.and_comm _ _
  · rw [if_neg h]
    have : positionB p = false := by simpa using h
    simp [this]
end Go.Proofs.YtdmgimfgoajmjaaGreatDoor
