/- A law's arguments, opened: slices of moves, a reason. -/
import Derived.Test.YtdmgimfgoajmjaaGreatDoorC36
import Derived.Test.YtdmgimfgoajmjaaGreatDoorC43
set_option linter.unusedVariables false
set_option linter.unusedSimpArgs false
namespace Go.Proofs.YtdmgimfgoajmjaaGreatDoor
open Go.RowKit Go.Deep Go.ChangeShapes
section
variable {H : Type} {enc : TypeId × Value → H} {w : World} {base : Nat} {sp : Nat → Bool} {held : Bool}
theorem mv_of_trod {cs : List Value} {fuel : Nat} {x : DataW H × List MemPlace} (h : DataW.trod enc Tryz.prog w base sp held fuel 51 cs = some x) : ∃ m : Mv, cs = (mvC m).toList := by
 obtain ⟨xs, n, -, -, hl, hxl, hf⟩ := DataW.trod_struct Tryz.underlying51 h
 have c3 : Tryz.prog.cellsOf 3 = 1 := by kernel_rfl
 have ck : Tryz.prog.cellsOf 23 = 1 := by kernel_rfl
 have cm : Tryz.prog.cellsOf 51 = 3 := by kernel_rfl
 rw [cm] at hl
 have hxl' : xs.length = 3 := hxl
 have e0 := hf 0 _ rfl
 obtain ⟨u0, hu0⟩ := some_at hxl' (i := 0) (by omega)
 rw [hu0] at e0
 obtain ⟨z1, q1, -⟩ := int_at Tryz.underlying3 c3 e0
 have e1 := hf 1 _ rfl
 obtain ⟨u1, hu1⟩ := some_at hxl' (i := 1) (by omega)
 rw [hu1] at e1
 obtain ⟨z2, q2, -⟩ := int_at Tryz.underlying3 c3 e1
 have e2 := hf 2 _ rfl
 obtain ⟨u2, hu2⟩ := some_at hxl' (i := 2) (by omega)
 rw [hu2] at e2
 obtain ⟨z3, q3, -⟩ := int_at Tryz.underlying23 ck e2
 refine ⟨⟨z1, z2, z3⟩, ?_⟩
 apply List.ext_getElem?
 intro i
 by_cases hi : i < 3
 ·rcases (by omega : i = 0 ∨ i = 1 ∨ i = 2) with rfl | rfl | rfl
  ·exact q1
  ·exact q2
  ·exact q3
 ·rw [List.getElem?_eq_none (by omega), List.getElem?_eq_none (by simp [mvC]; omega)]
theorem slmv_of_arg {a : Option Addr} {l c : Nat} {d : DataW H} {ps : List MemPlace} (h : DataW.Trod enc Tryz.prog w base sp held 45 (.slice a l c) d ps) : ∃ ms, SlMv w (.slice a l c) ms ∧ (Value.slice a l c = .slice none 0 0 ∨ ∃ ad c', Value.slice a l c = .slice (some ad) ms.length c') := by
 obtain ⟨fuel, hf⟩ := h
 have c3 : Tryz.prog.cellsOf 51 = 3 := by kernel_rfl
 rcases open_slice Tryz.underlying45 hf with ⟨hv, -⟩ | ⟨a, len, cap, m, n, D, Pl, hv, -, hlc, -, hm, -, hx⟩
 ·simp [Value.cells] at hv
  obtain ⟨rfl, rfl, rfl⟩ := hv
  exact ⟨[], ⟨⟨_, _, rfl⟩, fun h => by simp at h⟩, .inl rfl⟩
 ·simp [Value.cells] at hv
  obtain ⟨rfl, rfl, rfl⟩ := hv
  rw [c3] at hx
  by_cases h0 : l = 0
  ·subst h0
   exact ⟨[], ⟨⟨_, _, rfl⟩, fun h => by simp at h⟩, .inr ⟨_, _, rfl⟩⟩
  ·have hml : l ≤ m := by rw [hm]; split <;> omega
   obtain ⟨g, o, cur, T, fr, rfl, hb, hrow⟩ := row_of_slice (len := l) (c := 3) (by omega) (fun i hi => by obtain ⟨cs, h1, -⟩ := hx i (by omega); exact ⟨cs, h1⟩) (by omega)
   obtain ⟨L, hL, hR⟩ := list_of (R := fun k (x : Mv) => ∀ j, j < 3 → cur[o + k * 3 + j]? = (mvC x)[j]?) l (fun k hk => by
    obtain ⟨cs, h1, h2⟩ := hx k (by omega)
    obtain ⟨x, e2⟩ := mv_of_trod h2
    obtain ⟨f1, f2, f3⟩ := hrow k cs h1
    refine ⟨x, fun j hj => (f3 j hj).trans ?_⟩
    rw [e2, Array.getElem?_toList])
   subst hL
   exact ⟨L, ⟨⟨_, _, rfl⟩, fun _ => ⟨mvsC_len L, .inr ⟨g, o, c, rfl, blk_lt hb, fun j u hu => by
    have hj := (List.getElem?_eq_some_iff.1 hu).1
    rw [mvsC_len] at hj
    obtain ⟨x, hx⟩ := some_at (l := L) rfl (i := j / 3) (by omega)
    have hk : j % 3 < 3 := Nat.mod_lt _ (by omega)
    have e := mvsC_at hx (j % 3) hk
    rw [show j / 3 * 3 + j % 3 = j by omega, hu] at e
    rw [blk_cell hb, show o + j = o + j / 3 * 3 + j % 3 by omega, hR _ x hx (j % 3) hk, e]
    rcases (by omega : j % 3 = 0 ∨ j % 3 = 1 ∨ j % 3 = 2) with e | e | e <;> rw [e] <;> rfl⟩⟩⟩, .inr ⟨_, _, rfl⟩⟩
end
end Go.Proofs.YtdmgimfgoajmjaaGreatDoor
