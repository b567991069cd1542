/- AgainNever: whatever the position and the numbers, the law answers true, and its arguments read as they did. -/
import Derived.Test.YtdmgimfgoajmjaaGreatDoorC48
import Derived.Test.YtdmgimfgoajmjaaGreatDoorD01
set_option linter.unusedVariables false
set_option linter.unusedSimpArgs false
namespace Go.Proofs.YtdmgimfgoajmjaaGreatDoor
open Go.ChangeShapes Go.WideShapes Go.ChangeAt Go.RowKit Go.Deep
section
variable {H : Type} {enc : TypeId × Value → H} {w : World} {base : Nat} {sp : Nat → Bool} {held : Bool}
theorem sli_of_arg {a : Option Addr} {l c : Nat} {d : DataW H} {ps : List MemPlace} (h : DataW.Trod enc Tryz.prog w base sp held 43 (.slice a l c) d ps) : ∃ zs, SlI w (.slice a l c) zs ∧ ∀ z ∈ zs, inI z := by
  obtain ⟨fuel, hf⟩ := h
  have c3 : Tryz.prog.cellsOf 3 = 1 := by kernel_rfl
  rcases open_slice Tryz.underlying43 hf with ⟨hv, -⟩ | ⟨a, len, cap, m, n, D, Pl, hv, -, hlc, -, hm, -, hx⟩
  · simp [Value.cells] at hv
    obtain ⟨rfl, rfl, rfl⟩ := hv
    exact ⟨[], ⟨⟨_, _, rfl⟩, fun h => by simp at h⟩, fun _ h => by cases h⟩
  · simp [Value.cells] at hv
    obtain ⟨rfl, rfl, rfl⟩ := hv
    rw [c3] at hx
    by_cases h0 : l = 0
    · subst h0
      exact ⟨[], ⟨⟨_, _, rfl⟩, fun h => by simp at h⟩, fun _ h => by cases h⟩
    · have hml : l ≤ m := by rw [hm]; split <;> omega
      obtain ⟨g, o, cur, T, fr, rfl, hb, hrow⟩ := row_of_slice (len := l) (c := 1) (by omega) (fun i hi => by obtain ⟨cs, h1, -⟩ := hx i (by omega); exact ⟨cs, h1⟩) (by omega)
      obtain ⟨L, hL, hR⟩ := list_of (R := fun k z => inI z ∧ cur[o + k]? = some (.int .i64 z)) l (fun k hk => by
        obtain ⟨cs, h1, h2⟩ := hx k (by omega)
        obtain ⟨z, e1, -, e2⟩ := DataW.trod_int Tryz.underlying3 h2
        obtain ⟨f1, f2, f3⟩ := hrow k cs h1
        have f4 := f3 0 (by omega)
        refine ⟨z, wf_inI e2, ?_⟩
        rw [e1] at f4
        simpa using f4)
      subst hL
      exact ⟨L, ⟨⟨_, _, rfl⟩, fun _ => ⟨by simp [ints], .inr ⟨g, o, c, rfl, blk_lt hb, fun j u hu => by
        rw [blk_cell hb]
        simp only [ints, List.getElem?_map, Option.map_eq_some_iff] at hu
        obtain ⟨z, hz, rfl⟩ := hu
        exact (hR j z hz).2⟩⟩⟩, fun z hz => by
        obtain ⟨k, hk⟩ := List.getElem?_of_mem hz
        exact (hR k z hk).1⟩
end
set_option maxHeartbeats 20000000 in
set_option maxRecDepth 100000 in
theorem never_lifted (os : Os) (started : os.Started) (H : Type) (enc : TypeId × Value → H) :
    ReturnsInHanded {} Tryz.checked os 5 .any (fun w args => (Rows.againNeverSpec.pre enc Tryz.prog Tryz.f5 [] false w args ∧ laidMetH Tryz.prog tabs w) ∧ sizedMet enc Tryz.prog Tryz.f5 (OpenSpec.ofChange Rows.againNeverSpec) false w args)
      (Rows.againNeverSpec.post enc Tryz.prog Tryz.f5 false true false false) := by
  refine returnsInHanded_of_change_and (C := Tryz.checked) (X := fun w _ => laidMetH Tryz.prog tabs w) (fun _ _ _ hh h => h.of_heap hh) own started (by kernel_rfl) Tryz.func5
    (ChangeSpec.witness_shaped (enc := enc) (C := Tryz.checked) (os := os) (X := fun w _ => laidMetH Tryz.prog tabs w) false (World.doorLaid Tryz.prog 400 os) #[.agg (Array.replicate 133 (.int .i64 0)), .slice none 0 0] 8 rfl (World.shaped_of_RefB (by kernel_rfl) (by kernel_rfl)) (by kernel_rfl) (by kernel_rfl) (by kernel_rfl) (door_met os _)) ?_
  intro W base args ds gs before hval0 hW _ _ hL _
  have hval : ∀ (j : Nat) t v, Tryz.f5.params[j]? = some t → args[j]? = some v → Value.okWide Tryz.prog W .any base t v := hval0
  have hW' := hW
  obtain ⟨p, q, hA0, hV, rfl, hfz, hnd⟩ := hW
  have hA : DataW.TrodAll enc Tryz.prog W 0 (fun _ => true) true Tryz.f5.params.toList args.toList ds p := hA0
  rw [Tryz.params5] at hA hval
  obtain ⟨v0, v1, d0, d1, p0, p1, rfl, rfl, rfl, h0, h1⟩ := trodAll_two hA
  obtain ⟨rfl, rfl⟩ := trodVars_none hV
  obtain ⟨x, hx, rfl⟩ := pos_of_arg h0
  obtain ⟨a0, l0, c0, rfl⟩ := okWide_slice Tryz.underlying43 (hval 1 43 v1 rfl rfl)
  obtain ⟨zs, hS, hr⟩ := sli_of_arg h1
  have lt0 : ∀ y ∈ p0, y.block < W.heap.size := by obtain ⟨m, hm⟩ := h0; exact DataW.trod_lt m _ _ _ hm
  have lt1 : ∀ y ∈ p1, y.block < W.heap.size := by obtain ⟨m, hm⟩ := h1; exact DataW.trod_lt m _ _ _ hm
  clear hA0 hval0
  refine (Never_any x zs _ W hS hr hx (tab10_of hL)).mono fun e W' ⟨he, bel⟩ => ?_
  subst he
  exact ⟨_, rfl, _, _, _, [], _, [], hW', trodAll_mk1 (shut_bool Tryz.underlying4 _), trodAll_cons_mk (Below.trod laidOut (by kernel_rfl) (of_decide_eq_true (by kernel_rfl)) h0 bel lt0) (trodAll_cons_mk (Below.trod laidOut (by kernel_rfl) (of_decide_eq_true (by kernel_rfl)) h1 bel lt1) trodAll_mk0), rfl, Below.frame bel _, fun h => by cases h⟩
set_option maxHeartbeats 20000000 in
set_option maxRecDepth 100000 in
theorem never_facts : joinedFacts Tryz.pinned.checked.prog 5 Tryz.f5 Rows.againNeverSpec Rows.againNeverRow = true := by
  unfold joinedFacts
  repeat' (with_reducible refine and_mk ?_ ?_)
  all_goals (as_aux_lemma => kernel_rfl)
theorem never_over : Rows.AgainNeverSaid :=
  OpenClaim.holds_of_wide 5 Tryz.f5 rfl rfl rfl rfl rfl rfl rfl ⟨rfl, rfl, rfl, rfl, rfl⟩ rfl rfl rfl rfl rfl (by as_aux_lemma => kernel_rfl) Tryz.func5 never_facts
    (of_decide_eq_true (by as_aux_lemma => kernel_rfl)) (by unfold Func.isWrapper; first | (rw [if_pos (by decide +kernel)]; kernel_rfl) | (rw [if_neg (by decide +kernel)]; exact ⟨rfl, rfl⟩))
    (fun os started H enc _ => never_lifted os started H enc)
theorem againNever_holds : Rows.AgainNeverCardSaid :=
  Claim7.holds_tied_plain_at .later [] [.data, .data, .data] true _ true
    never_over (fun _ h => by cases h) (by as_aux_lemma => kernel_rfl) (fun _ h => by cases h) againNever_row_tie rfl ⟨rfl, rfl⟩ (by as_aux_lemma => kernel_rfl) rfl
    (fun f fn hf hfn => by
      obtain rfl : f = 5 := Option.some.inj ((show Tryz.prog.funcNamed "zugzwang/zugzwanglaw12.AgainNever" = some 5 by kernel_rfl).symm.trans hf) |>.symm
      obtain rfl : fn = Tryz.f5 := (Option.some.inj (Tryz.func5.symm.trans hfn)).symm
      exact ⟨by as_aux_lemma => kernel_rfl, fun j t ht => by
        rw [Tryz.params5] at ht
        have hm : t ∈ [30, 43] := by simpa using Array.mem_of_getElem? ht
        have hall : ([30, 43].all fun u => !Tryz.prog.wantsStandIn u) = true := by kernel_rfl
        exact (show Tryz.prog.wantsStandIn t = false by simpa using List.all_eq_true.1 hall t hm)⟩)
    (by as_aux_lemma => kernel_rfl)
end Go.Proofs.YtdmgimfgoajmjaaGreatDoor
