/- The iterator over the pieces of the side that moves. -/
import Derived.Test.YtdmgimfgoajmjaaGreatDoorC25
import Derived.Test.YtdmgimfgoajmjaaGreatDoorC13
import Derived.Test.YtdmgimfgoajmjaaGreatDoorC01
import Derived.RangeFuncCalls
set_option linter.unusedVariables false
set_option linter.unusedSimpArgs false
namespace Go.Proofs.YtdmgimfgoajmjaaGreatDoor
open Go.RowKit
def moverB (p : Pos) (s : Nat) : Bool := decide (1 ≤ p.kind s ∧ p.kind s ≤ 6 ∧ (p.side s = 0 ∨ p.side s = 1) ∧ p.side s = p.turn)
def moversL (p : Pos) (n : Nat) : List Nat := (List.range n).filter (moverB p)
theorem moversL_succ (p : Pos) (n : Nat) : moversL p (n + 1) = moversL p n ++ if moverB p n = true then [n] else [] := by
  unfold moversL
  rw [List.range_succ, List.filter_append]
  congr 1
  simp only [List.filter_cons, List.filter_nil]
theorem moversL_len (p : Pos) (n : Nat) : (moversL p n).length ≤ n := Nat.le_trans (List.length_filter_le _ _) (by simp)
theorem operIn_build_mover {F : Fence} {n : Nat} {a : Act} {w : World} {K : Act → World → Prop} {Q : Exit → Act → World → Prop} {dst : Option Tmp} {x y z : Operand} {ty : TypeId} {pos : String} {af : Array Edge} {g : Option (Nat × Bool)}
    {p : Pos} {t k s : Int} (hx : a.eval x = .agg (posCells p)) (hy : a.eval y = .int .i64 t) (hz : a.eval z = .agg #[.int .i64 k, .int .i64 s])
    (h : K (a.put dst (.agg (moverCells p t k s))) w) : (⟨dst, .build 219 #[(0, x), (1, y), (2, z)], ty, pos, af, g⟩ : Oper).wpIn F n Tryz.prog a w K Q := by
  have hrun : (execOp a.eval ⟨dst, .build 219 #[(0, x), (1, y), (2, z)], ty, pos, af, g⟩).run Tryz.prog w = .ok (.value (.agg (moverCells p t k s))) w := by
    rw [build_mover, hx, hy, hz]
    have hs : posCells p ++ (#[.int .i64 t] ++ #[.int .i64 k, .int .i64 s]) = moverCells p t k s := mover_fold p t k s
    unfold buildAll
    rw [if_pos (by simp [Value.cells, posCells_size])]
    simp only [concatV, Value.cells]
    rw [← hs]
  unfold Oper.wpIn
  refine ⟨?_, ?_⟩
  · intro f hf; simp [Oper.about] at hf
  · rw [Oper.semAt_plain F _ _ (by intro c hc'; cases hc'), hrun]
    exact h
def KeepP (bf : Nat) (A B : World) : Prop := A.heap.size ≤ B.heap.size ∧ blk B bf = blk A bf
set_option maxRecDepth 100000 in
set_option maxHeartbeats 2000000 in
theorem movers_in (n : Nat) (hn : 1 ≤ n) (l : Nat) (p : Pos) (bf : Nat) (J Jx : List Nat → World → Prop)
    (hY : ∀ (pre : List Nat) (x : Nat) (W1 : World), x < 64 → moverB p x = true → J pre W1 → pre.length < 64 → YieldAt Fence.wide (n - 1) Tryz.prog l #[.agg (moverCells p (x : Int) (p.kind x) (p.side x))] W1 fun e W' => (e = .returned (.bool true) ∧ J (pre ++ [x]) W' ∧ KeepP bf W1 W') ∨ (e = .returned (.bool false) ∧ Jx (pre ++ [x]) W'))
    (W : World) (hJ : AbidesFrom W.heap.size J) (hC : blk W bf = some (.cells (posCells p) 30 (0, 0))) (h0 : J [] W) :
    CallsIn Fence.wide n Tryz.prog 199 #[.func (.yield l) #[] #[], .pointer (some ⟨bf, 0, none⟩)] W fun e W' => (∃ v, e = .returned v) ∧
      ((∃ xs, xs = moversL p 64 ∧ J xs W') ∨ (∃ pre : List Nat, True ∧ Jx pre W')) := by
  have hcF := blk_cell hC
  have hb1 := hC
  refine callsIn_of_wp Tryz.func199 rfl trivial ?_ rfl
  simp only [Tryz.ntmps199, List.size_toArray, List.length_cons, List.length_nil, Nat.reduceAdd, Nat.reduceSub, Array.replicate_succ, Array.replicate_zero, List.push_toArray, List.append_toArray, List.nil_append, List.cons_append]
  gi_wp2_with (refine wpListIn_load_row (T := 27) (m := 128) Tryz.underlying27 rfl (by kernel_rfl) rfl hb1 (by rw [posCells_size]; decide) ?_)
  try simp only [posCells_sq, Nat.zero_add]
  gi_loopw [8] (fun i wr => ∃ k : Nat, i = .int .i64 k ∧ k ≤ 64 ∧ blk wr bf = some (.cells (posCells p) 30 (0, 0)) ∧ W.heap.size ≤ wr.heap.size ∧ J (moversL p k) wr) (fun i _ => 64 - (intOf i).toNat)
  case atStart => exact ⟨0, rfl, by omega, hC, Nat.le_refl _, h0⟩
  case round =>
    obtain ⟨k, rfl, hk, hCr, hWr, hJr⟩ := hrel
    clear hcF hb1 hC h0
    have ct := blk_cell hCr 128
    simp only [go_sem] at ct
    have lf := blk_lt hCr
    have HC := hid hCr
    clear hCr
    by_cases hlt : k < 64
    · by_cases hA : moverB p k = true
      · have hA' := hA
        simp only [moverB, decide_eq_true_eq] at hA'
        obtain ⟨a1, a2, a3, a4⟩ := hA'
        have HA := hid hA
        clear hA
        rcases a3 with a3 | a3
        · have a4' : p.turn = 0 := by omega
          obtain ⟨w8, hw8⟩ : ∃ w8, w8 = wr.alloc (.cells #[.int .i64 (p.kind k), .int .i64 0] 26 (0, 0)) := ⟨_, rfl⟩
          have hx8 : Ext wr w8 := by rw [hw8]; exact Ext.alloc (Ext.refl _) _
          have hJ8 : J (moversL p k) w8 := hJ _ _ _ none hJr (Ext.grownNone hx8) (fun r e => by cases e)
          obtain ⟨fn, tmps, assign, body, hy, hR⟩ := hY _ k w8 hlt HA.out hJ8 (Nat.lt_of_le_of_lt (moversL_len p k) hlt)
          rw [a3] at hy
          have hle8 := hx8.le
          rw [hw8] at hy hR
          gi_wp2_with (first
            | (refine hR.mono ?_; rintro e W3 (⟨rfl, hJ3, hk3⟩ | ⟨rfl, hJx3⟩))
            | (refine operIn_load_row (m := 133) Tryz.underlying30 rfl (by kernel_rfl) rfl ((Ext.alloc (Ext.refl wr) _).blk _ lf |>.trans HC.out) (by rw [posCells_size]; decide) ?_)
            | (refine operIn_build_mover (p := p) (t := (k : Int)) (k := p.kind k) (s := 0) rfl rfl rfl ?_))
          · go_roundw
            case rel => exact ⟨k + 1, by go_num, by omega, hk3.2.trans (((Ext.alloc (Ext.refl wr) _).blk _ lf).trans HC.out), by have := hk3.1; rw [← hw8] at this; omega, by rw [moversL_succ, if_pos HA.out]; exact hJ3⟩
            case measure => simp [intOf]; omega
          · exact bodyPost_ret (results_none rfl _ _ _) rfl ⟨⟨_, rfl⟩, .inr ⟨_, trivial, hJx3⟩⟩
        · have a4' : p.turn = 1 := by omega
          obtain ⟨w8, hw8⟩ : ∃ w8, w8 = wr.alloc (.cells #[.int .i64 (p.kind k), .int .i64 1] 26 (0, 0)) := ⟨_, rfl⟩
          have hx8 : Ext wr w8 := by rw [hw8]; exact Ext.alloc (Ext.refl _) _
          have hJ8 : J (moversL p k) w8 := hJ _ _ _ none hJr (Ext.grownNone hx8) (fun r e => by cases e)
          obtain ⟨fn, tmps, assign, body, hy, hR⟩ := hY _ k w8 hlt HA.out hJ8 (Nat.lt_of_le_of_lt (moversL_len p k) hlt)
          rw [a3] at hy
          have hle8 := hx8.le
          rw [hw8] at hy hR
          gi_wp2_with (first
            | (refine hR.mono ?_; rintro e W3 (⟨rfl, hJ3, hk3⟩ | ⟨rfl, hJx3⟩))
            | (refine operIn_load_row (m := 133) Tryz.underlying30 rfl (by kernel_rfl) rfl ((Ext.alloc (Ext.refl wr) _).blk _ lf |>.trans HC.out) (by rw [posCells_size]; decide) ?_)
            | (refine operIn_build_mover (p := p) (t := (k : Int)) (k := p.kind k) (s := 1) rfl rfl rfl ?_))
          · go_roundw
            case rel => exact ⟨k + 1, by go_num, by omega, hk3.2.trans (((Ext.alloc (Ext.refl wr) _).blk _ lf).trans HC.out), by have := hk3.1; rw [← hw8] at this; omega, by rw [moversL_succ, if_pos HA.out]; exact hJ3⟩
            case measure => simp [intOf]; omega
          · exact bodyPost_ret (results_none rfl _ _ _) rfl ⟨⟨_, rfl⟩, .inr ⟨_, trivial, hJx3⟩⟩
      · have hA2 : ¬(1 ≤ p.kind k ∧ p.kind k ≤ 6 ∧ (p.side k = 0 ∨ p.side k = 1) ∧ p.side k = p.turn) := fun h => hA (decide_eq_true h)
        have HA := hid hA
        clear hA
        gi_wp2
        all_goals (first | (exfalso; omega) | skip)
        all_goals
          go_roundw
          case rel => exact ⟨k + 1, by go_num, by omega, ((Ext.alloc (Ext.refl wr) _).blk _ lf).trans HC.out, by simp; omega, by rw [moversL_succ, if_neg HA.out]; simpa using hJ _ _ _ none hJr (Ext.grownNone (Ext.alloc (Ext.refl wr) _)) (fun r e => by cases e)⟩
          case measure => simp [intOf]; omega
    · gi_wp2
      obtain rfl : k = 64 := by omega
      go_end0
      exact ⟨⟨_, rfl⟩, .inl ⟨_, rfl, hJr⟩⟩
end Go.Proofs.YtdmgimfgoajmjaaGreatDoor
namespace Go.Proofs.YtdmgimfgoajmjaaGreatDoor
open Go.RowKit
def noDeferB (l : List Oper) : Bool := l.all fun o => match o.op with | .defer _ => false | _ => true
theorem noDefer_spec {l : List Oper} (h : noDeferB l = true) : ∀ (j : Nat) (o : Oper), l.toArray[j]? = some o → ∀ c, o.op ≠ .defer c := by
  intro j o ho c hc
  have hm : o ∈ l := List.mem_of_getElem? (by simpa using ho)
  have := List.all_eq_true.1 h o hm
  rw [hc] at this
  cases this
theorem operIn_of_plain {P : Program} {o : Oper} {a : Act} {w : World} {K K' : Act → World → Prop} {Q : Exit → Act → World → Prop} (hd : ∀ c, o.op ≠ .defer c) (l n : Nat) (hL : ¬ LetsOut Q) (hK : ∀ a w, K a w → K' a w) (h : o.wp P a w K Q) :
    o.wpIn (Fence.wide.inRound l) n P a w K' Q := by
  unfold Oper.wp at h
  unfold Oper.wpIn
  refine ⟨fun _ _ => trivial, ?_⟩
  rw [Oper.semAt_plain _ _ _ hd]
  generalize (execOp a.eval o).run P w = r at h ⊢
  cases r with
  | ok x w' =>
    cases x with
    | value v => exact hK _ _ h
    | skip => exact hK _ _ h
    | defer d => exact hK _ _ h
    | enter f args =>
      refine ⟨fun e => (by cases e), CallsIn.inRound l (callsIn_wide.2 (Calls.mono h ?_))⟩
      intro e w'' he
      cases e with
      | returned v => exact hK _ _ he
      | panicked c => exact he
      | outgrown => exact he
    | row r args =>
      refine ⟨fun e => (by cases e), ?_⟩
      intro c cs _
      obtain ⟨v, w'', hr, s⟩ := h c cs
      exact ⟨v, w'', hK _ _ hr, stepsIn_wide.2 s⟩
    | _ => exact h.elim
  | halt x w' =>
    cases x with
    | panic v => exact h
    | _ => exact h.elim
theorem wpAnyIn_of_any {P : Program} {md : Region.Mode} {ops : List Oper} {Q : Exit → Act → World → Prop} (hd : noDeferB ops = true) (l n : Nat) (hL : ¬ LetsOut Q) : ∀ (fuel : Nat) (listed : Array Bool) (a : Act) (w : World), wpAny P md ops.toArray Q fuel listed a w → wpAnyIn (Fence.wide.inRound l) n P md ops.toArray Q fuel listed a w
  | 0, _, _, _, h => h
  | fuel + 1, listed, a, w, h => by
    refine ⟨h.1, fun i hi => ?_⟩
    have h2 := h.2 i hi
    unfold wpOp at h2
    unfold wpOpIn
    cases ho : ops.toArray[i]? with
    | none => rw [ho] at h2; exact wpAnyIn_of_any hd l n hL _ _ _ _ h2
    | some o =>
      rw [ho] at h2
      dsimp only at h2 ⊢
      split at h2
      · rename_i hw
        rw [if_pos hw]
        rcases h2 with h2 | h2
        · exact operIn_of_plain (noDefer_spec hd _ _ ho) l n hL (fun a w h => wpAnyIn_of_any hd l n hL _ _ _ _ h) h2
        · exact absurd h2.2 hL
      · rename_i hw
        rw [if_neg hw]
        exact ⟨fun _ _ => trivial, wpAnyIn_of_any hd l n hL _ _ _ _ h2⟩
theorem wpIn_round_split {P : Program} {id : Nat} {Q : Exit → Act → World → Prop} {a : Act} {w : World} {ls : List Oper} (n : Nat) (S : World → Prop) (l m : Nat) (hL : ¬ LetsOut Q) (hm : P.follows .mixedOrders = true) (hB : splitB ls n = true) (hD : noDeferB ls = true) (hS : S w.drew)
    (h : S w.drew → wpAnyH P .any (ls.take n).toArray (splitQ P ls.toArray (ls.drop n) Q) S n (Array.replicate n false) a w.drew) : (Code.region id ls.toArray true).wpIn (Fence.wide.inRound l) m P Q a w := by
  refine wpIn_region_any hm (wpAnyIn_of_any hD l m hL _ _ _ _ ?_)
  have hn : n < ls.length := by
    simp only [splitB, Bool.and_eq_true, decide_eq_true_eq] at hB
    exact hB.1.1.1.1
  have inv0 : HeadInv .any ls.toArray n (Array.replicate ls.toArray.size false) :=
    ⟨by simp, fun j oj _ hl => (by rw [getD_replicate_false] at hl; cases hl), fun t _ ht => getD_in (by simpa using ht) (getD_replicate_false _ _)⟩
  have hh : headOf (Array.replicate ls.toArray.size false) n = Array.replicate n false := by
    unfold headOf
    apply Array.ext_getElem?
    intro k
    simp only [Array.toList_replicate, List.take_replicate, List.getElem?_toArray, List.getElem?_replicate, Array.getElem?_replicate, List.size_toArray]
    by_cases hk : k < n
    · rw [if_pos (by omega), if_pos hk]
    · rw [if_neg (by omega), if_neg hk]
  have hop : openAt (Array.replicate ls.toArray.size false) n = n := by
    unfold openAt
    simp [List.take_replicate]
    rw [List.countP_eq_length.2 (by intro x hx; rw [List.eq_of_mem_replicate hx]; rfl)]
    simp; omega
  have H := wpAny_split (P := P) (Q := Q) hB n (Array.replicate ls.toArray.size false) a w.drew inv0 hop (by rw [hh]; exact wpAny_of_held _ _ _ _ (h hS))
  have e : n + (ls.length - n) = ls.toArray.size := by simp; omega
  rw [e] at H
  exact H
theorem wpIn_round_held {P : Program} {id : Nat} {Q : Exit → Act → World → Prop} {a : Act} {w : World} {ls : List Oper} (S : World → Prop) (l m : Nat) (hL : ¬ LetsOut Q) (hm : P.follows .mixedOrders = true) (hD : noDeferB ls = true) (hS : S w.drew)
    (h : S w.drew → wpAnyH P .any ls.toArray Q S ls.toArray.size (Array.replicate ls.toArray.size false) a w.drew) : (Code.region id ls.toArray true).wpIn (Fence.wide.inRound l) m P Q a w :=
  wpIn_region_any hm (wpAnyIn_of_any hD l m hL _ _ _ _ (wpAny_of_held _ _ _ _ (h hS)))
end Go.Proofs.YtdmgimfgoajmjaaGreatDoor
