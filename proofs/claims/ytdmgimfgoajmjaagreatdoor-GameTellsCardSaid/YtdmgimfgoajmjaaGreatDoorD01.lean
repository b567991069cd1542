/- GameTells: whatever the position and the deeds, the law answers true, and its arguments read as they did. -/
import Derived.Test.YtdmgimfgoajmjaaGreatDoorC36
import Derived.Test.YtdmgimfgoajmjaaGreatDoorD00
import Derived.Test.YtdmgimfgoajmjaaGreatDoorC46
set_option linter.unusedVariables false
set_option linter.unusedSimpArgs false
set_option maxRecDepth 100000
set_option maxHeartbeats 20000000
namespace Go.Proofs.YtdmgimfgoajmjaaGreatDoor
open Go.ChangeShapes Go.WideShapes Go.ChangeAt Go.RowKit Go.Deep
section
variable {H : Type} {enc : TypeId × Value → H} {w : World} {base : Nat} {sp : Nat → Bool} {held : Bool}
theorem dd_of_trod {cs : List Value} {fuel : Nat} {x : DataW H × List MemPlace} (h : DataW.trod enc Tryz.prog w base sp held fuel 91 cs = some x) : ∃ d : Dd, inI d.what ∧ cs = (ddC d).toList := by
 obtain ⟨xs, n, -, -, hl, hxl, hf⟩ := DataW.trod_struct Tryz.underlying91 h
 have c3 : Tryz.prog.cellsOf 3 = 1 := by kernel_rfl
 have ck : Tryz.prog.cellsOf 23 = 1 := by kernel_rfl
 have cr : Tryz.prog.cellsOf 63 = 1 := by kernel_rfl
 have cm : Tryz.prog.cellsOf 51 = 3 := by kernel_rfl
 have cd : Tryz.prog.cellsOf 91 = 5 := by kernel_rfl
 rw [cd] at hl
 have hxl' : xs.length = 3 := hxl
 have g0 := hf 0 _ rfl
 obtain ⟨y0, hy0⟩ := some_at hxl' (i := 0) (by omega)
 rw [hy0] at g0
 obtain ⟨z0, q0, r0⟩ := int_at Tryz.underlying3 c3 g0
 have g2 := hf 2 _ rfl
 obtain ⟨y2, hy2⟩ := some_at hxl' (i := 2) (by omega)
 rw [hy2] at g2
 obtain ⟨z4, q4, -⟩ := int_at Tryz.underlying63 cr g2
 have g1 := hf 1 _ rfl
 obtain ⟨y1, hy1⟩ := some_at hxl' (i := 1) (by omega)
 rw [hy1] at g1
 obtain ⟨zs, k, -, -, -, hzl, he⟩ := DataW.trod_struct Tryz.underlying51 g1
 have hzl' : zs.length = 3 := hzl
 have e0 := he 0 _ rfl
 obtain ⟨u0, hu0⟩ := some_at hzl' (i := 0) (by omega)
 rw [hu0] at e0
 obtain ⟨z1, q1, -⟩ := int_at Tryz.underlying3 c3 e0
 have e1 := he 1 _ rfl
 obtain ⟨u1, hu1⟩ := some_at hzl' (i := 1) (by omega)
 rw [hu1] at e1
 obtain ⟨z2, q2, -⟩ := int_at Tryz.underlying3 c3 e1
 have e2 := he 2 _ rfl
 obtain ⟨u2, hu2⟩ := some_at hzl' (i := 2) (by omega)
 rw [hu2] at e2
 obtain ⟨z3, q3, -⟩ := int_at Tryz.underlying23 ck e2
 refine ⟨⟨z0, ⟨z1, z2, z3⟩, z4⟩, r0, ?_⟩
 have a1 : cs[1]? = some (.int .i64 z1) := by rw [← q1]; simp [cm, List.getElem?_take, List.getElem?_drop]
 have a2 : cs[2]? = some (.int .i64 z2) := by rw [← q2]; simp [cm, List.getElem?_take, List.getElem?_drop]
 have a3 : cs[3]? = some (.int .i64 z3) := by rw [← q3]; simp [cm, List.getElem?_take, List.getElem?_drop]
 apply List.ext_getElem?
 intro i
 by_cases hi : i < 5
 ·rcases (by omega : i = 0 ∨ i = 1 ∨ i = 2 ∨ i = 3 ∨ i = 4) with rfl | rfl | rfl | rfl | rfl
  ·exact q0
  ·exact a1
  ·exact a2
  ·exact a3
  ·exact q4
 ·rw [List.getElem?_eq_none (by omega), List.getElem?_eq_none (by simp [ddC]; omega)]
theorem sldd_of_arg {a : Option Addr} {l c : Nat} {d : DataW H} {ps : List MemPlace} (h : DataW.Trod enc Tryz.prog w base sp held 87 (.slice a l c) d ps) : ∃ ds, SlDd w (.slice a l c) ds ∧ ∀ x ∈ ds, inI x.what := by
 obtain ⟨fuel, hf⟩ := h
 have c5 : Tryz.prog.cellsOf 91 = 5 := by kernel_rfl
 rcases open_slice Tryz.underlying87 hf with ⟨hv, -⟩ | ⟨a, len, cap, m, n, D, Pl, hv, -, hlc, -, hm, -, hx⟩
 ·simp [Value.cells] at hv
  obtain ⟨rfl, rfl, rfl⟩ := hv
  exact ⟨[], ⟨⟨_, _, rfl⟩, fun h => by simp at h⟩, fun _ h => by cases h⟩
 ·simp [Value.cells] at hv
  obtain ⟨rfl, rfl, rfl⟩ := hv
  rw [c5] at hx
  by_cases h0 : l = 0
  ·subst h0
   exact ⟨[], ⟨⟨_, _, rfl⟩, fun h => by simp at h⟩, fun _ h => by cases h⟩
  ·have hml : l ≤ m := by rw [hm]; split <;> omega
   obtain ⟨g, o, cur, T, fr, rfl, hb, hrow⟩ := row_of_slice (len := l) (c := 5) (by omega) (fun i hi => by obtain ⟨cs, h1, -⟩ := hx i (by omega); exact ⟨cs, h1⟩) (by omega)
   obtain ⟨L, hL, hR⟩ := list_of (R := fun k x => inI x.what ∧ ∀ j, j < 5 → cur[o + k * 5 + j]? = (ddC x)[j]?) l (fun k hk => by
    obtain ⟨cs, h1, h2⟩ := hx k (by omega)
    obtain ⟨x, e1, e2⟩ := dd_of_trod h2
    obtain ⟨f1, f2, f3⟩ := hrow k cs h1
    refine ⟨x, e1, fun j hj => (f3 j hj).trans ?_⟩
    rw [e2, Array.getElem?_toList])
   subst hL
   exact ⟨L, ⟨⟨_, _, rfl⟩, fun _ => ⟨ddsL_len L, .inr ⟨g, o, c, rfl, blk_lt hb, fun j u hu => by
    have hj := (List.getElem?_eq_some_iff.1 hu).1
    rw [ddsL_len] at hj
    obtain ⟨x, hx⟩ := some_at (l := L) rfl (i := j / 5) (by omega)
    have e := ddsL_at hx (j % 5) (Nat.mod_lt _ (by omega))
    rw [show j / 5 * 5 + j % 5 = j by omega, hu] at e
    rw [blk_cell hb, show o + j = o + j / 5 * 5 + j % 5 by omega, (hR _ x hx).2 (j % 5) (Nat.mod_lt _ (by omega)), ← e]⟩⟩⟩, fun z hz => by
    obtain ⟨k, hk⟩ := List.getElem?_of_mem hz
    exact (hR k z hk).1⟩
end
theorem gtells_lifted (os : Os) (started : os.Started) (H : Type) (enc : TypeId × Value → H) :
 ReturnsInHanded {} Tryz.checked os 9 .any (fun w args => (Rows.gameTellsSpec.pre enc Tryz.prog Tryz.f9 [] false w args ∧ laidMetH Tryz.prog tabs w) ∧ sizedMet enc Tryz.prog Tryz.f9 (OpenSpec.ofChange Rows.gameTellsSpec) false w args)
  (Rows.gameTellsSpec.post enc Tryz.prog Tryz.f9 false true false false) := by
 refine returnsInHanded_of_change_and (C := Tryz.checked) (X := fun w _ => laidMetH Tryz.prog tabs w) (fun _ _ _ hh h => h.of_heap hh) own started (by kernel_rfl) Tryz.func9
  (ChangeSpec.witness_shaped (enc := enc) (C := Tryz.checked) (os := os) (X := fun w _ => laidMetH Tryz.prog tabs w) false (World.doorLaid Tryz.prog 400 os) #[.agg (Array.replicate 133 (.int .i64 0)), .slice none 0 0] 8 rfl (World.shaped_of_RefB (by kernel_rfl) (by kernel_rfl)) (by kernel_rfl) (by kernel_rfl) (by kernel_rfl) (door_met os _)) ?_
 intro W base args ds gs before hval0 hW _ _ hL _
 have hval : ∀ (j : Nat) t v, Tryz.f9.params[j]? = some t → args[j]? = some v → Value.okWide Tryz.prog W .any base t v := hval0
 have hW' := hW
 obtain ⟨p, q, hA0, hV, rfl, hfz, hnd⟩ := hW
 have hA : DataW.TrodAll enc Tryz.prog W 0 (fun _ => true) true Tryz.f9.params.toList args.toList ds p := hA0
 rw [Tryz.params9] at hA hval
 obtain ⟨v0, v1, d0, d1, p0, p1, rfl, rfl, rfl, h0, h1⟩ := trodAll_two hA
 obtain ⟨rfl, rfl⟩ := trodVars_none hV
 obtain ⟨x, hx, rfl⟩ := pos_of_arg h0
 obtain ⟨a0, l0, c0, rfl⟩ := okWide_slice Tryz.underlying87 (hval 1 87 v1 rfl rfl)
 obtain ⟨zs, hS, hr⟩ := sldd_of_arg h1
 have lt0 : ∀ y ∈ p0, y.block < W.heap.size := by obtain ⟨m, hm⟩ := h0; exact DataW.trod_lt m _ _ _ hm
 have lt1 : ∀ y ∈ p1, y.block < W.heap.size := by obtain ⟨m, hm⟩ := h1; exact DataW.trod_lt m _ _ _ hm
 clear hA0 hval0
 refine (GameTells_any x zs _ W hS hr (tab10_of hL) (fun W' hx' => GAwake_any W' ((tab10_of hL).up hx'))).mono fun e W' ⟨he, bel⟩ => ?_
 subst he
 exact ⟨_, rfl, _, _, _, [], _, [], hW', trodAll_mk1 (shut_bool Tryz.underlying4 _), trodAll_cons_mk (Below.trod laidOut (by kernel_rfl) (of_decide_eq_true (by kernel_rfl)) h0 bel lt0) (trodAll_cons_mk (Below.trod laidOut (by kernel_rfl) (of_decide_eq_true (by kernel_rfl)) h1 bel lt1) trodAll_mk0), rfl, Below.frame bel _, fun h => by cases h⟩
theorem gtells_facts : joinedFacts Tryz.pinned.checked.prog 9 Tryz.f9 Rows.gameTellsSpec Rows.gameTellsRow = true := by
 unfold joinedFacts
 repeat' (with_reducible refine and_mk ?_ ?_)
 all_goals (as_aux_lemma => kernel_rfl)
theorem gtells_over : Rows.GameTellsSaid :=
 OpenClaim.holds_of_wide 9 Tryz.f9 rfl rfl rfl rfl rfl rfl rfl ⟨rfl, rfl, rfl, rfl, rfl⟩ rfl rfl rfl rfl rfl (by as_aux_lemma => kernel_rfl) Tryz.func9 gtells_facts
  (of_decide_eq_true (by as_aux_lemma => kernel_rfl)) (by unfold Func.isWrapper; first | (rw [if_pos (by decide +kernel)]; kernel_rfl) | (rw [if_neg (by decide +kernel)]; exact ⟨rfl, rfl⟩))
  (fun os started H enc _ => gtells_lifted os started H enc)
theorem gameTells_holds : Rows.GameTellsCardSaid :=
 Claim7.holds_tied_plain_at .later [] [.data, .data, .data] true _ true
  gtells_over (fun _ h => by cases h) (by as_aux_lemma => kernel_rfl) (fun _ h => by cases h) gameTells_row_tie rfl ⟨rfl, rfl⟩ (by as_aux_lemma => kernel_rfl) rfl
  (fun f fn hf hfn => by
   obtain rfl : f = 9 := Option.some.inj ((show Tryz.prog.funcNamed "zugzwang/zugzwanglaw14.GameTells" = some 9 by kernel_rfl).symm.trans hf) |>.symm
   obtain rfl : fn = Tryz.f9 := (Option.some.inj (Tryz.func9.symm.trans hfn)).symm
   exact ⟨by as_aux_lemma => kernel_rfl, fun j t ht => by
    rw [Tryz.params9] at ht
    have hm : t ∈ [30, 87] := by simpa using Array.mem_of_getElem? ht
    have hall : ([30, 87].all fun u => !Tryz.prog.wantsStandIn u) = true := by kernel_rfl
    exact (show Tryz.prog.wantsStandIn t = false by simpa using List.all_eq_true.1 hall t hm)⟩)
  (by as_aux_lemma => kernel_rfl)
end Go.Proofs.YtdmgimfgoajmjaaGreatDoor
