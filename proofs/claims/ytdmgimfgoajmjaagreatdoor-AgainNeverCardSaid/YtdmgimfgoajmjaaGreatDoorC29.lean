/- All moves of a position. -/
import Derived.Test.YtdmgimfgoajmjaaGreatDoorC28
import Derived.Test.YtdmgimfgoajmjaaGreatDoorC27
import Derived.Test.YtdmgimfgoajmjaaGreatDoorC13
set_option linter.unusedVariables false
set_option linter.unusedSimpArgs false
namespace Go.Proofs.YtdmgimfgoajmjaaGreatDoor
open Go.RowKit
abbrev MvT (p : Pos) := { s : Nat // s < 64 ∧ moverB p s = true }
theorem movers_any (p : Pos) (w : World) : Calls Tryz.prog 176 #[.agg (posCells p)] w fun e w' =>
    e = .returned (.func (.func 199) #[] #[.pointer (some ⟨w.heap.size, 0, none⟩)]) ∧ Ext w w' ∧ blk w' w.heap.size = some (.cells (posCells p) 30 (0, 0)) := by
  go_enter Tryz.func176, Tryz.ntmps176
  go_wp2
  go_ret
  exact ⟨rfl, (Ext.auto), by simp [go_sem]⟩
def encM (p : Pos) (x : MvT p) : Array Value := #[.agg (moverCells p (x.1 : Int) (p.kind x.1) (p.side x.1))]
theorem movers_stops (n : Nat) (hn : 1 ≤ n) (p : Pos) (bf : Nat) (w : World) (hC : blk w bf = some (.cells (posCells p) 30 (0, 0))) :
    SeqStopsK Fence.wide n Tryz.prog 199 #[.pointer (some ⟨bf, 0, none⟩)] (encM p) (KeepP bf) (fun xs => xs.map (·.1) = moversL p 64) (fun _ => True) 64 w := fun l J Jx W hW hJ _ hY h0 => by
  refine (movers_in n hn l p bf (fun pre W => ∃ q : List (MvT p), q.map (·.1) = pre ∧ J q W) (fun pre W => ∃ q : List (MvT p), q.map (·.1) = pre ∧ Jx q W) ?_ W (fun s A B row ⟨q, e, h⟩ hg hr => ⟨q, e, hJ _ _ _ _ h hg hr⟩) ((hW.block _ (blk_lt hC)).trans hC) ⟨[], rfl, h0⟩).mono ?_
  · rintro pre x W1 hx hm ⟨q, e, h⟩ hl
    obtain ⟨fn, tmps, assign, body, hy, hR⟩ := hY q ⟨x, hx, hm⟩ W1 h (by rw [← e] at hl; simpa using hl)
    refine ⟨fn, tmps, assign, body, hy, hR.mono ?_⟩
    rintro e' W' (⟨rfl, hJ3, hk⟩ | ⟨rfl, hJ3⟩)
    · exact .inl ⟨rfl, ⟨_, by simp [e], hJ3⟩, hk⟩
    · exact .inr ⟨rfl, ⟨_, by simp [e], hJ3⟩⟩
  · rintro e W' ⟨hv, ⟨xs, hxs, q, hq, h⟩ | ⟨pre, -, q, hq, h⟩⟩
    · exact ⟨hv, .inl ⟨q, hq.trans hxs, h⟩⟩
    · exact ⟨hv, .inr ⟨q, trivial, h⟩⟩
def movesOf (p : Pos) (s : Nat) : List Mv := toL (s : Int) (p.kind s) (p.side s) (squaresL p (s : Int) (p.kind s) (p.side s))
def AllL (p : Pos) : List Mv := sortMv ((moversL p 64).flatMap (movesOf p))
theorem squaresL_len (p : Pos) (a k s : Int) : (squaresL p a k s).length ≤ 1000 := by
  have h1 := FromL_len p a
  have h2 := castlingsL_len p a k s
  have h3 := List.length_filter_le (fun t => !ownB p s t) (FromL p a)
  have h4 := List.length_filter_le (pawnTakes p s) (FromL p a)
  unfold squaresL stepsL
  split
  · simp only [List.length_append]
    split <;> split <;> simp <;> omega
  · simp only [List.length_append]; omega
theorem movesOf_len (p : Pos) (s : Nat) : (movesOf p s).length ≤ 4000 := by
  have h1 := toL_len (s : Int) (p.kind s) (p.side s) (squaresL p (s : Int) (p.kind s) (p.side s))
  have h2 := squaresL_len p (s : Int) (p.kind s) (p.side s)
  unfold movesOf; omega
def rawL (p : Pos) (q : List (MvT p)) : List Mv := (q.map (·.1)).flatMap (movesOf p)
theorem rawL_snoc (p : Pos) (q : List (MvT p)) (x : MvT p) : rawL p (q ++ [x]) = rawL p q ++ movesOf p x.1 := by simp [rawL]
theorem rawL_len (p : Pos) (q : List (MvT p)) : (rawL p q).length ≤ q.length * 4000 := by
  induction q with
  | nil => simp [rawL]
  | cons x r ih =>
    have := movesOf_len p x.1
    simp only [rawL, List.map_cons, List.flatMap_cons, List.length_append, List.length_cons] at *; omega
theorem moverB_side {p : Pos} {s : Nat} (h : moverB p s = true) : p.side s = 0 ∨ p.side s = 1 := by
  simp only [moverB, decide_eq_true_eq] at h
  exact h.2.2.1
structure InvA (p : Pos) (w : World) (B0 : Nat) (q : List (MvT p)) (v : Value) (W : World) : Prop where
  o : blk W (w.heap.size + 1) = some (.cells #[v] 45 (0, 0))
  r : W.ownsRow B0 51 3 v (rawL p q).length (mvsC (rawL p q))
  x : Below w.heap.size w W
  n : B0 ≤ W.heap.size
def MSa (p : Pos) (x : Nat) (v : Value) (b bo : Nat) (W W' : World) : Prop := Ext W W' ∧ blk W' bo = some (.cells #[v] 45 (0, 0)) ∧ blk W' b = some (.cells (moverCells p (x : Int) (p.kind x) (p.side x)) 219 (0, 0)) ∧ W'.cell? ⟨bo, 0, none⟩ = some v
theorem MSa.mk' {p : Pos} {x : Nat} {v : Value} {b bo : Nat} {W W' : World} (h : Ext W W') (h1 : blk W' bo = some (.cells #[v] 45 (0, 0))) (h2 : blk W' b = some (.cells (moverCells p (x : Int) (p.kind x) (p.side x)) 219 (0, 0))) : MSa p x v b bo W W' := ⟨h, h1, h2, blk_cell h1 0⟩
theorem MSa.ext {p : Pos} {x : Nat} {v : Value} {b bo : Nat} {W W' W'' : World} (h : MSa p x v b bo W W') (hx : Ext W' W'') : MSa p x v b bo W W'' := MSa.mk' (h.1.trans hx) ((hx.blk _ (blk_lt h.2.1)).trans h.2.1) ((hx.blk _ (blk_lt h.2.2.1)).trans h.2.2.1)
@[go_sem ↓] theorem store_moves_mover (ρ : Operand → Value) (dst : Option Tmp) (x y : Operand) (ty : TypeId) (pos : String) (af : Array Edge) (g : Option (Nat × Bool)) (w : World) :
    (execOp ρ ⟨dst, .store 219 x y, ty, pos, af, g⟩).run Tryz.prog w = storeSub 136 (ρ x) (ρ y) w (dfltStore Tryz.prog 219 (ρ x) (ρ y) w) :=
  exec_store_sub (by kernel_rfl) ρ dst x y ty pos af g w
@[go_sem] theorem zm_size : (Tryz.zeroCells219).size = 136 := by kernel_rfl
@[go_sem] theorem rowOk_mover (p : Pos) (a k s : Int) : rowOk (moverCells p a k s) = true := by
  have h := posCells_one p
  unfold rowOk at h ⊢
  rw [moverCells_eq, Array.all_append, h]
  simp [Value.oneCell']
theorem own_cells {w : World} {base e size n : Nat} {v : Value} {xs : List Value} (h : w.ownsRow base e size v n xs) {b : Nat} (hb : v.ownBlock = some b) : base ≤ b ∧ ∃ cur, w.heap[b]? = some (.cells cur e (0, 0)) := by
  rcases h.2 with ⟨rfl, _⟩ | ⟨g, cap, cur, rfl, hbg, hgg, _⟩
  · cases hb
  · cases hb; exact ⟨hbg, cur, hgg⟩
theorem own_grown {w w' : World} {base e size n : Nat} {v : Value} {xs : List Value} (h : w.ownsRow base e size v n xs) {row : Option Nat} (hg : w.grownBy w' row) (hr : ∀ r, row = some r → ∃ o : Obj, w.heap[r]? = some o ∧ o.isCells = false) : w'.ownsRow base e size v n xs :=
  own_blocks h fun b hb => by
    obtain ⟨_, cur, hc⟩ := own_cells h hb
    refine hg.block b (Array.getElem?_eq_some_iff.1 hc).1 (fun e => ?_)
    obtain ⟨o, ho, hn⟩ := hr b e.symm
    rw [hc] at ho; cases ho; cases hn
theorem own_keeps {w w' : World} {base e size n : Nat} {v : Value} {xs : List Value} (h : w.ownsRow base e size v n xs) (hg : w.grownBy w' v.ownBlock) (B : Nat) : KeepsFrom B w w' := ⟨hg.size, fun k o _ hk ho => by
  refine (hg.block k (Array.getElem?_eq_some_iff.1 hk).1 (fun e => ?_)).trans hk
  obtain ⟨_, cur, hc⟩ := own_cells h e.symm
  rw [hc] at hk; cases hk; cases ho⟩
theorem Ext.keeps {W W' : World} (h : Ext W W') (B : Nat) : KeepsFrom B W W' := ⟨h.le, fun k _ _ hk _ => (h.block k (Array.getElem?_eq_some_iff.1 hk).1).trans hk⟩
set_option maxRecDepth 100000 in
set_option maxHeartbeats 2000000 in
theorem All_any (p : Pos) (w : World) : Calls Tryz.prog 154 #[.agg (posCells p)] w (RetMvs (AllL p) w) := by
  refine (callsIn_wide (n := 5)).1 (callsIn_of_wp_marks Tryz.func154 rfl trivial ?_ rfl)
  simp only [Tryz.ntmps154, List.size_toArray, List.length_cons, List.length_nil, Nat.reduceAdd, Nat.reduceSub, Array.replicate_succ, Array.replicate_zero, List.push_toArray, List.append_toArray, List.nil_append, List.cons_append]
  refine wpIn_wide.2 ?_
  go_wp2_with (go_at_call 176; (with_reducible refine (movers_any _ _).mono ?_); rintro e w1 ⟨rfl, hx1, hC⟩)
  have hlw := hx1.le
  simp only [World.size_alloc] at hlw
  have hbo : blk w1 (w.heap.size + 1) = some (.cells #[.slice none 0 0] 45 (0, 0)) := (hx1.blk _ (by simp)).trans (by simp [go_sem])
  have hEx : Ext w w1 := Ext.trans (Ext.auto) hx1
  refine (wpIn_wide (n := 5)).1 ?_
  simp only [World.size_alloc] at hC ⊢
  refine wpIn_rangeFunc_ownH rfl (by decide) (gf := 199) (lb := #[.pointer (some ⟨w.heap.size + 1 + 1, 0, none⟩)]) rfl trivial (enters_of Tryz.func199 (by kernel_rfl) rfl)
    (movers_stops 4 (by decide) p _ w1 hC) (fun h k => ⟨Nat.le_trans h.1 k.1, k.2.trans h.2⟩) ?kb (Below.refl _ _) (fun _ => rfl)
    (fun q W => ∃ v, InvA p w w1.heap.size q v W) (fun _ _ _ => False) ?own (fun _ _ _ _ _ hs _ _ => hs) ⟨_, hbo, World.ownsRow_nil _ _ _ _, hEx, Nat.le_refl _⟩
    (fun x a' W => ∃ b, w1.heap.size ≤ b ∧ blk W b = some (.cells (moverCells p (x.1 : Int) (p.kind x.1) (p.side x.1)) 219 (0, 0)) ∧ a' = { tmps := #[.agg (posCells p), .pointer (some ⟨w.heap.size, 0, none⟩), .pointer (some ⟨w.heap.size + 1, 0, none⟩), .pointer (some ⟨b, 0, none⟩), .agg (posCells p), .func (.func 199) #[] #[.pointer (some ⟨w.heap.size + 1 + 1, 0, none⟩)], .agg (moverCells p (x.1 : Int) (p.kind x.1) (p.side x.1)), undef, undef, undef, undef, undef, undef, undef, undef, undef], defers := [] })
    ?ownA ?assign ?body ?done ?stop
  case kb =>
    intro W l o o' hl _ _ _
    have hlt2 := blk_lt hC
    exact ⟨(grownBy_putObj' W l o').size, World.putObj_heap_other (by omega)⟩
  case own =>
    rintro q A B row ⟨v, hI⟩ hg hr
    refine ⟨v, (hg.block _ (blk_lt hI.o) (fun e => by have := (hr _ e.symm).1; omega)).trans hI.o, own_grown hI.r hg (fun r e => (hr r e).2), hI.x.grown hg hI.x.size (fun r e => by have := (hr r e).1; omega), Nat.le_trans hI.n hg.size⟩
  case ownA =>
    rintro x a' _ A B row ⟨b, hb, hbb, rfl⟩ hg hr
    refine ⟨b, hb, (hg.block _ (blk_lt hbb) (fun e => ?_)).trans hbb, rfl⟩
    obtain ⟨_, o, ho, hn⟩ := hr b e.symm
    rw [show A.heap[b]? = _ from hbb] at ho; cases ho; cases hn
  case assign =>
    rintro l pre x W K ⟨v, hI⟩ hK
    have hA : Ext W (W.alloc (.cells (moverCells p (x.1 : Int) (p.kind x.1) (p.side x.1)) 219 (0, 0))) := Ext.alloc (Ext.refl _) _
    have hle := hI.n
    have hlt2 := blk_lt hC
    unfold encM
    gi_wp2_with (rw [Oper.semAt_eq _ _ _ (fun c h => by cases h)]; go_simp)
    exact hK _ _ (hA.keeps _) ⟨by simp, hA.blk _ (by omega)⟩ ⟨v, (hA.blk _ (blk_lt hI.o)).trans hI.o, own_ext hI.r hA, Below.trans hI.x (Below.mono hA hI.x.size), by simp; omega⟩ ⟨W.heap.size, hle, blk_alloc_at _ _ _ rfl, rfl⟩
  case body =>
    rintro l q0 x a' W hl ⟨r, hr⟩ ⟨v, hI⟩ ⟨b, hb, hbb, rfl⟩ hlt
    gi_wp2
    refine wpIn_round_split 5 (MSa p x.1 v b (w.heap.size + 1) W) _ _ (by rintro ⟨_, _, h⟩; exact h) (by kernel_rfl) (by kernel_rfl) (by kernel_rfl) ((MSa.mk' (Ext.refl _) hI.o hbb).ext (Ext.drew (Ext.refl _))) (fun hH => ?_)
    simp only [List.take_succ_cons, List.take_zero, List.drop_succ_cons, List.drop_zero]
    refine hTk (i := 0) (v := ?_) (hy := Or.inl ⟨by rfl, ?_⟩) (h := ?_); rotate_left 1; (intro w0 hS; (try dsimp only at hS); unfold MSa at hS; go_simp; try with_reducible rfl); (try go_frame)
    refine hTk (i := 1) (v := ?_) (hy := Or.inl ⟨by rfl, ?_⟩) (h := ?_); rotate_left 1; (intro w0 hS; (try dsimp only at hS); unfold MSa at hS; go_simp; try with_reducible rfl); (try go_frame)
    refine hTk (i := 2) (v := ?_) (hy := Or.inl ⟨by rfl, ?_⟩) (h := ?_); rotate_left 1; (intro w0 hS; (try dsimp only at hS); unfold MSa at hS; go_simp; try with_reducible rfl); (try go_frame)
    refine wpAnyH_ready (rs := [3]) (by kernel_rfl) (by simp) ?_; refine hCo (h := fun K hK => ?_) (hs := AllReadyH.nil); go_simp
    refine (squares_any p _ _ _ _ (by omega) (by have := x.2.1; omega) rfl (moverB_side x.2.2)).mono ?_
    rintro e w8 ⟨v8, rfl, hown8, hx8⟩
    refine hK.out _ _ (hH.ext (by first | assumption | exact Ext.alloc (Ext.refl _) _)) (fun hH => ?_); clear hK; (try go_frame)
    refine wpAnyH_ready (rs := [4]) (by kernel_rfl) (by simp) ?_; refine hCo (h := fun K hK => ?_) (hs := AllReadyH.nil); go_simp
    refine (to_any p _ _ _ _ _ _ (moverB_side x.2.2) (Sl.of_own hown8) (squaresL_len _ _ _ _)).mono ?_
    rintro e w9 ⟨v9, rfl, hown9', hx9⟩
    refine hK.out _ _ (hH.ext (by first | assumption | exact Ext.alloc (Ext.refl _) _)) (fun hH => ?_); clear hK; (try go_frame)
    refine wpAnyH_done (by kernel_rfl) ?_ _
    simp only [splitQ]
    have hown9 := own_ext hI.r hH.1
    have hbo9 := hH.2.1
    have hlq := rawL_len p q0
    refine wpList_append_sl Tryz.underlying45 info_mv rfl (by decide) (by decide) rfl _ _ rfl w1.heap.size v _ _ rfl hown9 v9 _ (mvsC (movesOf p x.1)) rfl (Sl.of_own hown9') (mvs_one _) ?len ?base (fun v' w2 hown2 hg2 hf2 => ?_)
    case len =>
      exact Nat.le_trans (Nat.add_le_add hlq (movesOf_len p x.1)) (by omega)
    case base => exact Nat.le_trans hI.n hH.1.le
    obtain ⟨av, capv, rfl⟩ := (Sl.of_own hown2).form
    have hbo2 : blk w2 (w.heap.size + 1) = some (.cells #[v] 45 (0, 0)) := (hg2.block _ (blk_lt hbo9) (fun e => by have := (own_cells hown9 e.symm).1; omega)).trans hbo9
    have hc2 := blk_cell hbo2 0
    have hf3 := blk_froz hbo2 0
    simp only [List.getElem?_toArray, List.getElem?_cons_zero] at hc2
    go_wp2
    have hS := hown2
    have hbf := blk_lt hC
    have hlb2 := blk_lt hbo2
    have hxW := Below.trans hI.x (Below.mono hH.1 hI.x.size)
    have hn9 := hH.1.le
    have hnI := hI.n
    have hx2 : Ext w w2 := Ext.grown hxW (own_base hown9 (by omega)) hg2
    have hsz := (grownBy_setCell' w2 (w.heap.size + 1) (.slice av ((rawL p q0).length + (toL (x.1 : Int) (p.kind x.1) (p.side x.1) (squaresL p (x.1 : Int) (p.kind x.1) (p.side x.1))).length) capv)).size
    have hg2s := hg2.size
    refine ⟨((hH.1.keeps _).trans (own_keeps hown9 hg2 _)).trans ((KeepsOthers.setCell _ _ _).from _), ⟨by omega, ?k2⟩, _, blk_setCell_same _ _ _ _ _ _ hbo2, ?k4, Ext.set hx2 (by simp) _, by omega⟩
    case k2 =>
      rw [blk_setCell_past _ _ _ _ (by simp)]
      exact (hg2.block _ (by omega) (fun e => by have := (own_cells hown9 e.symm).1; omega)).trans (hH.1.blk _ (by omega))
    case k4 =>
      rw [rawL_snoc, List.length_append, mvsC_append]
      exact own_set hown2 (by show w.heap.size + 1 < _; omega) _
  case done =>
    rintro D xs W hD hxs ⟨v, hI⟩ hK
    have hL : rawL p xs = (moversL p 64).flatMap (movesOf p) := by unfold rawL; rw [hxs]
    have hle := rawL_len p xs
    have hml := moversL_len p 64
    have hxl : xs.length ≤ 64 := by rw [← hxs] at hml; simpa using hml
    have hr := hI.r
    have ho := hI.o
    have hxx := hI.x
    clear hI hxs hml
    generalize rawL p xs = L at hL hle hr
    have HL := hid hL
    clear hL
    have hLn : L.length ≤ 1000000 := by omega
    clear hle hxl
    have hc2 := blk_cell ho 0
    have hf2 := blk_froz ho 0
    simp only [List.getElem?_toArray, List.getElem?_cons_zero] at hc2
    obtain ⟨av, capv, rfl⟩ := (Sl.of_own hr).form
    have hbf := blk_lt hC
    have hlo := blk_lt ho
    have HK := hid hK
    have HO := hid ho
    clear hK ho hbo
    go_wp2_with (go_at_call 179; (with_reducible refine (SortMv_own w1.heap.size _ L _ hr hLn).mono ?_); rintro e w3 ⟨rfl, hown3, hg3⟩; have hbo3 : blk w3 (w.heap.size + 1) = _ := (hg3.block _ hlo (fun e => by have := (own_cells hr e.symm).1; omega)).trans HO.out; have hc3 := blk_cell hbo3 0; have hf3 := blk_froz hbo3 0; simp only [List.getElem?_toArray, List.getElem?_cons_zero] at hc3)
    have hDl := (Array.getElem?_eq_some_iff.1 HK.out).1
    have hK3 : w3.heap[D]? = some (.deferred (some [])) := (hg3.block _ hDl (fun e => by obtain ⟨_, cur, hc⟩ := own_cells hr e.symm; rw [HK.out] at hc; cases hc)).trans HK.out
    have hK4 : (w3.setCell ⟨w.heap.size + 1, 0, none⟩ (.slice av L.length capv)).heap[D]? = some (.deferred (some [])) := (blk_setCell_past w3 _ _ D (by simp; omega)).trans hK3
    have hown4 := own_set hown3 (a := ⟨w.heap.size + 1, 0, none⟩) (by show w.heap.size + 1 < _; omega) (.slice av L.length capv)
    have hc4 : (w3.setCell ⟨w.heap.size + 1, 0, none⟩ (.slice av L.length capv)).cell? ⟨w.heap.size + 1, 0, none⟩ = some (.slice av L.length capv) := World.cell?_setCell_same' _ _ _ (by rw [hc3]; rfl)
    have hx3 : Ext w w3 := Ext.grown hxx (own_base hr (by omega)) hg3
    have hx4 : Ext w (w3.setCell ⟨w.heap.size + 1, 0, none⟩ (.slice av L.length capv)) := Ext.set hx3 (by simp) _
    have hown5 := own_blocks hown4 (w' := (w3.setCell ⟨w.heap.size + 1, 0, none⟩ (.slice av L.length capv)).putObj D (.deferred none)) (fun b hb => World.putObj_heap_other (fun e => by
      obtain ⟨_, cur, hc⟩ := own_cells hown4 hb
      rw [e, hK4] at hc; cases hc))
    have hc5 : ((w3.setCell ⟨w.heap.size + 1, 0, none⟩ (.slice av L.length capv)).putObj D (.deferred none)).cell? ⟨w.heap.size + 1, 0, none⟩ = some (.slice av L.length capv) := (World.cell?_of_block (World.putObj_heap_other (by show w.heap.size + 1 ≠ D; omega))).trans hc4
    have hx5 : Ext w ((w3.setCell ⟨w.heap.size + 1, 0, none⟩ (.slice av L.length capv)).putObj D (.deferred none)) := Below.grown hx4 (grownBy_putObj' _ D _) hx4.size (fun k hk => by have e := Option.some.inj hk; omega)
    have hAL : AllL p = sortMv L := by unfold AllL; rw [← HL.out]
    refine ⟨by simp, .inl ⟨_, _, rfl, run_takeDeferred hK4, ?_⟩⟩
    refine ⟨.slice av L.length capv, ?_, ?_⟩
    · simp [results, Tryz.f154, go_sem, hc5]
    · refine ⟨_, rfl, ?_, hx5⟩
      rw [hAL, sortMv_len]
      exact own_base hown5 (by omega)
  case stop =>
    rintro D c pre W _ _ h _
    exact h.elim
end Go.Proofs.YtdmgimfgoajmjaaGreatDoor
