/- Squares on which one's own piece stands are struck from a list. -/
import Derived.Test.YtdmgimfgoajmjaaGreatDoorC19
import Derived.Test.YtdmgimfgoajmjaaGreatDoorC20
import Derived.Shelf.SlicesE.DeleteFunc
import Derived.Sort.OwnSortedInts
import Derived.Laws.AppendOwnNone
import Derived.Test.YtdmgimfgoajmjaaGreatDoorC11
import Derived.Test.YtdmgimfgoajmjaaGreatDoorC01
import Derived.RangeFuncCalls
set_option linter.unusedVariables false
set_option linter.unusedSimpArgs false
set_option maxRecDepth 100000
set_option maxHeartbeats 4000000
namespace Go.Proofs.YtdmgimfgoajmjaaGreatDoor
open Go.RowKit Go.Sort Go.Shelf
def ownB (p : Pos) (s t : Int) : Bool := !bareB p t && p.side t.toNat == s
theorem squares1_gives (p : Pos) (a k s t : Int) (b : Nat) (w : World) (hb : blk w b = some (.cells (moverCells p a k s) 219 (0, 0))) (t0 : 0 ≤ t) (t1 : t < 64) :
 FnGives Tryz.prog 201 #[.pointer (some ⟨b, 0, none⟩)] #[.int .i64 t] (.bool (ownB p s t)) w := by
 show Calls Tryz.prog 201 #[.int .i64 t, .pointer (some ⟨b, 0, none⟩)] w _
 have t2 : t.toNat < 64 := by omega
 have c0 := mc_kind hb _ t2
 have c1 := mc_side hb _ t2
 have c2 := mc_s hb
 clear hb
 cases h : bareB p t
 ·have h' : (p.kind t.toNat == 0 && p.side t.toNat == 0) = false := h
  have E := hid (show ownB p s t = (p.side t.toNat == s) by unfold ownB; rw [h]; rfl)
  clear h
  go_enter Tryz.func201, Tryz.ntmps201
  go_wp2
  go_quiet (fail)
  go_wp2
  go_ret
  exact ⟨by rw [E.out]; rfl, _, rfl⟩
 ·have h' : (p.kind t.toNat == 0 && p.side t.toNat == 0) = true := h
  have E := hid (show ownB p s t = false by unfold ownB; rw [h]; rfl)
  clear h
  go_enter Tryz.func201, Tryz.ntmps201
  go_wp2
  go_quiet (fail)
  go_wp2
  go_ret
  exact ⟨by rw [E.out]; rfl, _, rfl⟩
abbrev SqT := { x : Int // 0 ≤ x ∧ x < 64 }
def encS (x : SqT) : Value := .int .i64 x.1
def zrS : SqT := ⟨0, by decide⟩
instance : Inhabited SqT := ⟨zrS⟩
def toSq (l : List Int) (h : ∀ t ∈ l, 0 ≤ t ∧ t < 64) : List SqT := l.attach.map fun x => ⟨x.1, h x.1 x.2⟩
theorem toSq_val (l : List Int) (h : ∀ t ∈ l, 0 ≤ t ∧ t < 64) : (toSq l h).map (·.1) = l := by
 unfold toSq
 rw [List.map_map]
 exact List.attach_map_subtype_val l
theorem toSq_len (l : List Int) (h : ∀ t ∈ l, 0 ≤ t ∧ t < 64) : (toSq l h).length = l.length := by simp [toSq]
theorem toSq_enc (l : List SqT) : l.map encS = ints (l.map (·.1)) := by simp [ints, encS]
theorem toSq_filter (l : List Int) (h : ∀ t ∈ l, 0 ≤ t ∧ t < 64) (f : Int → Bool) : ((toSq l h).filter fun x => f x.1).map (·.1) = l.filter f := by
 have e := toSq_val l h
 generalize toSq l h = m at e
 subst e
 clear h
 induction m with
 | nil => rfl
 | cons x r ih =>
   simp only [List.filter_cons, List.map_cons]
   split <;> simp [ih]
theorem take_putCellsS (cur : Array Value) (R : List SqT) (m : Nat) (hm : m ≤ R.length) (h : R.length ≤ cur.size) : (putCells encS 0 R.toArray cur).toList.take m = (R.take m).map encS := by
 apply List.ext_getElem?
 intro j
 by_cases hj : j < m
 ·rw [List.getElem?_take_of_lt hj, Array.getElem?_toList, List.getElem?_map, List.getElem?_take_of_lt hj]
  have h1 : j < R.length := by omega
  simp [putCells, h1, show j < cur.size by omega]
 ·rw [List.getElem?_take_eq_none (by omega), List.getElem?_eq_none (by simp; omega)]
theorem heap_putS {w : World} {g n : Nat} {cur : Array Value} {e : TypeId} {fr : Nat × Nat} (d : Array SqT) (hb : w.heap[g]? = some (.cells cur e fr)) :
 (putRow encS (Sort.ahead w n) g 0 d).heap[g]? = some (.cells (putCells encS 0 d cur) e fr) := by
 simp [putRow, mapBlock, Sort.ahead, Array.getElem?_modify, hb, onCells]
theorem grownBy_putS {w : World} {g n : Nat} (d : Array SqT) : w.grownBy (putRow encS (Sort.ahead w n) g 0 d) (some g) := by
 refine ⟨rfl, rfl, rfl, by simp, fun k hk hne => ?_⟩
 have : g ≠ k := fun e => hne (by rw [e])
 simp [putRow, mapBlock, Sort.ahead, Array.getElem?_modify, this]
theorem squares1_enters : ∀ args w, (callFunc 201 args).run Tryz.prog w = .ok (.enter 201 args) w := enters_of Tryz.func201 (by kernel_rfl) rfl
def DelPost (base : Nat) (v : Value) (l : List Int) (w : World) (e : Ending) (w' : World) : Prop := ∃ v', e = .returned v' ∧ w'.ownsRow base 3 1 v' l.length (ints l) ∧ w.grownBy w' v.ownBlock ∧ (∀ k, v'.ownBlock = some k → v.ownBlock = some k)
theorem Delete_nil (g : Nat) (lb : Array Value) (base : Nat) (w : World) (eg : ∀ args w, (callFunc g args).run Tryz.prog w = .ok (.enter g args) w) : Calls Tryz.prog 202 #[.slice none 0 0, .func (.func g) #[] lb] w (DelPost base (.slice none 0 0) [] w) := by
 have hI := IndexFunc_any (fun _ => false) g lb [] (.slice none 0 0) w ⟨rfl, .inl ⟨rfl, rfl⟩⟩ (by simp) eg (fun x hx => by cases hx)
 go_enter Tryz.func202, Tryz.ntmps202
 go_wp2_with (go_at_call 158; (with_reducible refine hI.mono ?_); rintro e w1 ⟨r, rfl, ⟨rfl, -⟩ | ⟨k, rfl, x, hx, -⟩, hx1⟩; rotate_left 1; (cases hx))
 go_ret
 exact ⟨_, rfl, World.ownsRow_nil _ _ _ _, Ext.grownNone hx1, fun k hk => hk⟩
theorem Delete_own (p : Pos) (a k s : Int) (b base : Nat) (v : Value) (l : List Int) (w : World) (hl : ∀ t ∈ l, 0 ≤ t ∧ t < 64) (h : w.ownsRow base 3 1 v l.length (ints l)) (hn : l.length ≤ 1000000)
 (hb : blk w b = some (.cells (moverCells p a k s) 219 (0, 0))) (hne : v.ownBlock ≠ some b) :
 Calls Tryz.prog 202 #[v, .func (.func 201) #[] #[.pointer (some ⟨b, 0, none⟩)]] w (DelPost base v (l.filter fun t => !ownB p s t) w) := by
 rcases h.2 with ⟨rfl, h0⟩ | ⟨g, cap, cur, rfl, hbg, hgg, hcap, hcm, hcs, htk⟩
 ·obtain rfl : l = [] := List.eq_nil_of_length_eq_zero h0
  exact Delete_nil _ _ base w squares1_enters
 ·have hgb : g ≠ b := fun e => hne (by rw [e]; rfl)
  have hH : Holds encS w g 0 (toSq l hl).toArray := by
   intro j hj
   have hj' : j < l.length := by simpa [toSq_len] using hj
   refine ⟨?_, by simp [World.frozen?, hgg]⟩
   have h1 : (cur.toList.take l.length)[j]? = (ints l)[j]? := by rw [← htk]; simp
   rw [List.getElem?_take_of_lt hj'] at h1
   have h2 : (toSq l hl)[j]? = some ((toSq l hl)[j]'(by rw [toSq_len]; exact hj')) := List.getElem?_eq_getElem _
   have h3 : (ints l)[j]? = some (encS ((toSq l hl)[j]'(by rw [toSq_len]; exact hj'))) := by
    have e := toSq_enc (toSq l hl)
    rw [toSq_val] at e
    rw [← e, List.getElem?_map, h2]; rfl
   rw [cell_of_row w g (0 + j) cur _ (0, 0) hgg, Nat.zero_add, ← Array.getElem?_toList, h1, h3]
   congr 2
   simp [getElem!_pos, toSq_len, hj']
  have hlen : (toSq l hl).toArray.size = l.length := by simp [toSq_len]
  have hcon := AnyE.slices_DeleteFunc Tryz.layDel encS (fun _ => rfl) (fun x => ownB p s x.1) 201 #[.pointer (some ⟨b, 0, none⟩)] squares1_enters zrS (fun w => by kernel_rfl) g 0 cap (toSq l hl).toArray w
   (fun W x hB => squares1_gives p a k s x.1 b W ((hB.block _ (blk_lt hb)).trans hb) x.2.1 x.2.2)
   (fun n os dk x _ => squares1_gives p a k s x.1 b _ (by
    show (grow (putRow encS (Sort.ahead w n) g 0 dk) os).heap[b]? = _
    rw [heap_grow_old _ _ (by rw [size_putRow]; exact blk_lt hb)]
    refine Eq.trans ?_ hb
    simp [putRow, mapBlock, Sort.ahead, Array.getElem?_modify, hgb, blk]) x.2.1 x.2.2) hH (by rw [hlen]; omega) (by rw [hlen]; exact hcap)
  rw [hlen] at hcon
  change Calls Tryz.prog 202 _ _ _ at hcon
  refine hcon.mono ?_
  rintro e w' ⟨rfl, q, rfl⟩
  have hF := toSq_filter l hl (fun t => !ownB p s t)
  have hFl : ((toSq l hl).filter fun x => !ownB p s x.1).length = (l.filter fun t => !ownB p s t).length := by rw [← hF]; simp
  have hle : (l.filter fun t => !ownB p s t).length ≤ l.length := List.length_filter_le _ _
  generalize hR : ((toSq l hl).filter fun x => !ownB p s x.1) = F at *
  refine ⟨_, rfl, ⟨by simp [ints], .inr ⟨g, cap, _, by simp only [List.toList_toArray, hR, hFl], hbg, heap_putS _ hgg, by omega, hcm, by simp [putCells, hcs], ?_⟩⟩, grownBy_putS _, fun k hk => ?_⟩
  ·rw [Nat.mul_one, ← hFl, take_putCellsS cur _ _ (by simp) (by simp; omega), List.take_left, toSq_enc, hF]
  ·exact (show some g = some k from hk)
end Go.Proofs.YtdmgimfgoajmjaaGreatDoor
namespace Go.Proofs.YtdmgimfgoajmjaaGreatDoor
open Go.RowKit
theorem wpList_append_sl {t e : TypeId} {z : Value} {size bytes : Nat} (ht : Tryz.prog.underlying t = some (.slice e)) (hinfo : (Tryz.prog.info? e).map (fun i => (i.zero, i.size, i.bytes)) = some (some z, size, bytes)) (hzs : z.cells.size = size) (hsz : 0 < size) (hby : bytes ≤ 100000)
 {ops : Array Oper} {rest : List Oper} {o : Oper} {a : Act} {w : World} {Q : Exit → Act → World → Prop} (hgd : o.guard = none) (s x : Operand)
 (ho : o.op = .call { callee := .builtin .append, args := #[s, x], argTypes := #[t, t] })
 (base : Nat) (v : Value) (n : Nat) (xs : List Value) (hs : a.eval s = v) (hown : w.ownsRow base e size v n xs) (y : Value) (m : Nat) (news : List Value) (hx : a.eval x = y) (hS : Sl w size y m news) (h1 : ∀ u ∈ news, u.oneCell' = true)
 (hn : n + m ≤ 1000000) (hbase : base ≤ w.heap.size)
 (h : ∀ v' w', w'.ownsRow base e size v' (n + m) (xs ++ news) → w.grownBy w' v.ownBlock → (∀ k, v'.ownBlock = some k → v.ownBlock = some k ∨ w.heap.size ≤ k) → wpList Tryz.prog ops Q rest (a.put o.dst v') w') : wpList Tryz.prog ops Q (o :: rest) a w := by
 obtain ⟨i0, hi0, hz0, hz1, hz2⟩ := info_parts hinfo
 rcases hS.2 with ⟨rfl, rfl⟩ | ⟨b, off, cap, rfl, hb, hc⟩
 ·have hnil : news = [] := List.eq_nil_of_length_eq_zero (by rw [hS.1]; simp)
  subst hnil
  exact wpList_append_own_none hgd s x t ho base e i0 size ht hi0 v n xs hs hown hx (h v w (by simpa using hown) ⟨rfl, rfl, rfl, Nat.le_refl _, fun _ _ _ => rfl⟩ (fun k hk => .inl hk))
 ·obtain ⟨v', w', hr, h2, h3, h4⟩ := run_append_far (P := Tryz.prog) w base t o.type e i0 z size bytes ht hi0 hz0 hz1 hz2 hzs hsz v n xs hown ⟨b, off, none⟩ m cap news hS.1 (fun j u hu => by
   have hadd : (⟨b, off, none⟩ : Addr).add j = ⟨b, off + j, none⟩ := by unfold Addr.add; split <;> simp_all
   rw [hadd]; exact hc j u hu) h1 (by simp only [maxLen]; omega) (Nat.le_trans (Nat.mul_le_mul hn hby) (by decide)) hbase
  exact Lib.wpList_append_run w hgd s x _ _ ho v _ hs hx v' w' hr (h v' w' h2 h3 h4)
theorem ints_one (l : List Int) : ∀ u ∈ ints l, u.oneCell' = true := by
 intro u hu
 simp only [ints, List.mem_map] at hu
 obtain ⟨x, _, rfl⟩ := hu
 rfl
def squaresL (p : Pos) (a k s : Int) : List Int := if k = 1 then stepsL p a s else (FromL p a).filter (fun t => !ownB p s t) ++ castlingsL p a k s
theorem RetInts.elim {l : List Int} {w w' : World} {e : Ending} (h : RetInts l w e w') : ∃ v, e = .returned v ∧ w'.ownsRow w.heap.size 3 1 v l.length (ints l) ∧ Ext w w' := h
theorem upto_sub (p : Pos) : ∀ (l : List Int), ∀ t ∈ upto p l, t ∈ l
 | [], t, h => by simp [upto] at h
 | x :: r, t, h => by
   simp only [upto, List.mem_cons] at h ⊢
   rcases h with h | h
   ·exact .inl h
   ·split at h
    ·exact .inr (upto_sub p r t h)
    ·simp at h
theorem alongL_sq (p : Pos) (a : Int) (l : List (Int × Int)) : ∀ t ∈ alongL p a l, 0 ≤ t ∧ t < 64 := by
 intro t ht
 unfold alongL at ht
 rw [List.mem_flatMap] at ht
 obtain ⟨x, _, hx⟩ := ht
 exact rayOf_sq (upto_sub p _ t hx)
theorem fromL_sq (p : Pos) (a : Int) : ∀ t ∈ fromL p a, 0 ≤ t ∧ t < 64 := by
 intro t ht
 unfold fromL at ht
 dsimp only at ht
 (repeat' split at ht) <;> first | exact ringL_sq _ _ t ht | exact alongL_sq p _ _ t ht | simp at ht
theorem FromL_sq' (p : Pos) (a : Int) : ∀ t ∈ FromL p a, 0 ≤ t ∧ t < 64 := by
 intro t ht
 unfold FromL at ht
 split at ht
 ·rw [mem_sortL] at ht; exact fromL_sq p a t ht
 ·simp at ht
theorem castlingsL_len (p : Pos) (a k s : Int) : (castlingsL p a k s).length ≤ 2 := by
 unfold castlingsL
 split
 ·rw [List.length_append]; split <;> split <;> simp
 ·simp
theorem squares_any (p : Pos) (a k s : Int) (w : World) (a0 : 0 ≤ a) (a1 : a < 64) (hk : p.kind a.toNat = k) (hs : s = 0 ∨ s = 1) : Calls Tryz.prog 178 #[.agg (moverCells p a k s)] w (RetInts (squaresL p a k s) w) := by
 by_cases h1 : k = 1
 ·subst h1
  have E : squaresL p a 1 s = stepsL p a s := if_pos rfl
  rw [E]
  clear E
  have hmb : blk (w.alloc (.cells (moverCells p a 1 s) 219 (0, 0))) w.heap.size = _ := blk_alloc_at _ _ _ rfl
  go_enter Tryz.func178, Tryz.ntmps178
  go_wp2_with (go_at_call 200; (with_reducible refine (steps_any p a s _ a0 a1 hk hs).mono ?_); rintro e w1 ⟨v1, rfl, hown1, hx⟩)
  go_ret
  exact RetInts.mk' hown1 rfl rfl (by simp) (Ext.trans (Ext.auto) hx)
 ·have g1 : (k == 1) = false := by simpa using h1
  have E : squaresL p a k s = (FromL p a).filter (fun t => !ownB p s t) ++ castlingsL p a k s := if_neg h1
  rw [E]
  clear E
  have hsq := FromL_sq' p a
  have hl := FromL_len p a
  have hl1 : ((FromL p a).filter fun t => !ownB p s t).length ≤ 64 := Nat.le_trans (List.length_filter_le _ _) hl
  have hl2 := castlingsL_len p a k s
  generalize hL1 : (FromL p a).filter (fun t => !ownB p s t) = L1 at *
  generalize hL2 : castlingsL p a k s = L2 at *
  have HL1 := hid hL1
  have HL2 := hid hL2
  clear hL1 hL2
  go_enter Tryz.func178, Tryz.ntmps178
  go_wp2
  have hM : MSs p a k s w (w.alloc (.cells (moverCells p a k s) 219 (0, 0))) := MSs.mk' (blk_alloc_at _ _ _ rfl) (Ext.auto)
  refine world_cut (fun W => MSs p a k s w W) hM ?_
  clear hM
  intro W hM
  refine wp_region_split 9 (MSs p a k s w) (by kernel_rfl) (by kernel_rfl) (hM.ext (Ext.drew (Ext.refl _))) (fun hH => ?_)
  simp only [List.take_succ_cons, List.take_zero, List.drop_succ_cons, List.drop_zero]
  refine hTz MSs.u 0 ?_; (try go_frame)
  refine hTz MSs.u 1 ?_; (try go_frame)
  refine hTz MSs.u 2 ?_; (try go_frame)
  refine hTz MSs.u 3 ?_; (try go_frame)
  refine hTz MSs.u 5 ?_; (try go_frame)
  refine hTz MSs.u 7 ?_; (try go_frame)
  refine hRy [4] (hCp (fun K hK => ?_) AllReadyH.nil); go_simp
  refine (From_any p a _).mono ?_
  rintro e w8 ⟨v8, rfl, hown8, hx8⟩
  refine hK.out _ _ (by first | exact hH.ext (by assumption) | exact hH.grown (own_base hown8 (by have := hM.sz; simp at this ⊢; omega)) hg9) (fun hH => ?_); clear hK; (try go_frame)
  refine hRy [6] (hCp (fun K hK => ?_) AllReadyH.nil); go_simp
  refine (Delete_own p a k s w.heap.size _ v8 (FromL p a) _ hsq hown8 (by omega) hH.hb (fun e => by have h := (hown8.lt _ e).1; have := hM.sz; simp at h this; omega)).mono ?_
  rintro e w9 ⟨v9, rfl, hown9, hg9, hb9⟩
  refine hK.out _ _ (by first | exact hH.ext (by assumption) | exact hH.grown (own_base hown8 (by have := hM.sz; simp at this ⊢; omega)) hg9) (fun hH => ?_); clear hK; (try go_frame)
  refine hRy [8] (hCp (fun K hK => ?_) AllReadyH.nil); go_simp
  refine (castlings_any p a k s _ hs).mono ?_
  rintro e w10 ⟨v10, rfl, hown10, hx10⟩
  refine hK.out _ _ (by first | exact hH.ext (by assumption) | exact hH.grown (own_base hown8 (by have := hM.sz; simp at this ⊢; omega)) hg9) (fun hH => ?_); clear hK; (try go_frame)
  refine wpAnyH_done (by kernel_rfl) ?_ _
  simp only [splitQ]
  rw [HL1.out] at hown9
  rw [HL2.out] at hown10
  have hbs : w.heap.size + 1 ≤ W.drew.heap.size := hM.sz
  have hle := hH.sz
  have hx8' := hx8.le
  have hg9' := hg9.size
  have hx10' := hx10.le
  go_wp2_with (at_builtin; refine wpList_append_sl Tryz.underlying43 info_int rfl (by decide) (by decide) rfl _ _ rfl W.drew.heap.size v9 _ _ rfl (own_ext hown9 hx10) v10 L2.length (ints L2) rfl (Sl.of_own hown10) (ints_one _) (by omega) (by omega) (fun v' w11 hown11 hg11 _ => ?_))
  go_ret
  exact RetInts.mk' hown11 (by simp) (by rw [ints_append]) (by omega) (hH.grown (own_base (own_ext hown9 hx10) hbs) hg11).x
def mvsC (l : List Mv) : List Value := l.flatMap fun m => [.int .i64 m.fr, .int .i64 m.to_, .int .i64 m.be]
theorem mvsC_append (l m : List Mv) : mvsC (l ++ m) = mvsC l ++ mvsC m := by simp [mvsC]
theorem mvsC_len (l : List Mv) : (mvsC l).length = l.length * 3 := by
 induction l with
 | nil => rfl
 | cons x r ih => simp only [mvsC, List.flatMap_cons, List.length_append, List.length_cons, List.length_nil] at *; omega
def RetMvs (l : List Mv) (w : World) (e : Ending) (w' : World) : Prop := ∃ v, e = .returned v ∧ w'.ownsRow w.heap.size 51 3 v l.length (mvsC l) ∧ Ext w w'
theorem RetMvs.mk' {l : List Mv} {v : Value} {w w' : World} {base n : Nat} {cs : List Value} (h : w'.ownsRow base 51 3 v n cs) (hn : n = l.length) (hc : cs = mvsC l) (hb : w.heap.size ≤ base) (hx : Ext w w') : RetMvs l w (.returned v) w' :=
 ⟨v, rfl, by subst hn; subst hc; exact own_base h hb, hx⟩
theorem info_mv : (Tryz.prog.info? 51).map (fun i => (i.zero, i.size, i.bytes)) = some (some (.agg #[.int .i64 0, .int .i64 0, .int .i64 0]), 3, 24) := by kernel_rfl
theorem mvs_one (l : List Mv) : ∀ u ∈ mvsC l, u.oneCell' = true := by
 intro u hu
 simp only [mvsC, List.mem_flatMap] at hu
 obtain ⟨x, _, hx⟩ := hu
 simp at hx
 rcases hx with rfl | rfl | rfl <;> rfl
theorem wpList_append_mv {ops : Array Oper} {rest : List Oper} {o : Oper} {a : Act} {w : World} {Q : Exit → Act → World → Prop} (hgd : o.guard = none) (s x : Operand)
 (ho : o.op = .call { callee := .builtin .append, args := #[s, x], argTypes := #[45, 45] })
 (base : Nat) (v : Value) (l : List Mv) (hs : a.eval s = v) (hown : w.ownsRow base 51 3 v l.length (mvsC l)) (g : Nat) (m : Mv) {t : TypeId} {fr : Nat × Nat} (hx : a.eval x = .slice (some ⟨g, 0, none⟩) 1 1)
 (hg : blk w g = some (.cells #[.int .i64 m.fr, .int .i64 m.to_, .int .i64 m.be] t fr)) (hn : l.length ≤ 900000) (hbase : base ≤ w.heap.size)
 (h : ∀ v' w', w'.ownsRow base 51 3 v' (l ++ [m]).length (mvsC (l ++ [m])) → w.grownBy w' v.ownBlock → (∀ k, v'.ownBlock = some k → v.ownBlock = some k ∨ w.heap.size ≤ k) → wpList Tryz.prog ops Q rest (a.put o.dst v') w') : wpList Tryz.prog ops Q (o :: rest) a w := by
 refine wpList_append_sl Tryz.underlying45 info_mv rfl (by decide) (by decide) hgd s x ho base v l.length (mvsC l) hs hown (.slice (some ⟨g, 0, none⟩) 1 1) 1 (mvsC [m]) hx (Sl.of_blk hg 3 1 rfl 1) (mvs_one _) (by omega) hbase fun v' w' h1 h2 h3 => h v' w' ?_ h2 h3
 rw [List.length_append, mvsC_append]
 exact h1
def promos (a t : Int) : List Mv := [⟨a, t, 2⟩, ⟨a, t, 3⟩, ⟨a, t, 4⟩, ⟨a, t, 5⟩]
def toOne (a k s t : Int) : List Mv := if k = 1 ∧ rankOf t = 7 * (1 - s) then promos a t else [⟨a, t, 0⟩]
def toL (a k s : Int) (l : List Int) : List Mv := l.flatMap (toOne a k s)
theorem toL_snoc {a k s : Int} {l : List Int} {j : Nat} {t : Int} (h : l[j]? = some t) : toL a k s (l.take (j + 1)) = toL a k s (l.take j) ++ toOne a k s t := by
 have : l.take (j + 1) = l.take j ++ [t] := by rw [List.take_add_one, h]; rfl
 rw [this]
 simp [toL]
theorem toOne_len (a k s t : Int) : (toOne a k s t).length ≤ 4 := by unfold toOne; split <;> simp [promos]
theorem toL_len (a k s : Int) (l : List Int) : (toL a k s l).length ≤ l.length * 4 := by
 induction l with
 | nil => simp [toL]
 | cons x r ih =>
   have := toOne_len a k s x
   simp [toL, List.flatMap_cons] at *; omega
abbrev MSt.T (p : Pos) (a k s : Int) (w : World) (v : Value) (L : List Mv) (W : World) : Prop := blk W w.heap.size = some (.cells (moverCells p a k s) 219 (0, 0)) ∧ Ext w W ∧ W.ownsRow (w.heap.size + 1) 51 3 v L.length (mvsC L)
def MSt (p : Pos) (a k s : Int) (w : World) (v : Value) (L : List Mv) (W : World) : Prop := MSt.T p a k s w v L W
theorem MSt.u {p a k s w v L} (W) (h : MSt p a k s w v L W) : MSt.T p a k s w v L W := h
theorem MSt.ext {p : Pos} {a k s : Int} {w W W' : World} {v : Value} {L : List Mv} (h : MSt p a k s w v L W) (hx : Ext W W') : MSt p a k s w v L W' := ⟨(hx.blk _ (blk_lt h.1)).trans h.1, h.2.1.trans hx, own_ext h.2.2 hx⟩
theorem MSt.put {p : Pos} {a k s : Int} {w W W' : World} {v v' : Value} {L L' : List Mv} (h : MSt p a k s w v L W) (ho : W'.ownsRow (w.heap.size + 1) 51 3 v' L'.length (mvsC L')) (hx : W.grownBy W' v.ownBlock) : MSt p a k s w v' L' W' :=
 have hr : ∀ x, v.ownBlock = some x → w.heap.size + 1 ≤ x := fun x hx => (h.2.2.lt x hx).1
 ⟨(hx.block _ (blk_lt h.1) (fun e => by have := hr _ e.symm; omega)).trans h.1, Below.grown h.2.1 hx h.2.1.le (fun x hx' => by have := hr x hx'; omega), ho⟩
theorem to_any (p : Pos) (a k s : Int) (L : List Int) (v : Value) (w : World) (hs : s = 0 ∨ s = 1) (hS : Sl w 1 v L.length (ints L)) (hn : L.length ≤ 1000) : Calls Tryz.prog 177 #[.agg (moverCells p a k s), v] w (RetMvs (toL a k s L) w) := by
 obtain ⟨a', cap, rfl⟩ := hS.form
 have HS := hid hS
 clear hS
 have s0 : 0 ≤ s := by omega
 have s1 : s ≤ 1 := by omega
 have z1 : IntKind.i64.wrap (7 * (1 - s)) = 7 * (1 - s) := IntWalk.i64_in _ (by omega)
 have z2 : IntKind.i64.wrap (1 - s) = 1 - s := IntWalk.i64_in _ (by omega)
 go_enter Tryz.func177, Tryz.ntmps177
 go_wp2
 go_loopw [4, 10] (fun u i wr => ∃ j : Nat, i = .int .i64 j ∧ j ≤ L.length ∧ MSt p a k s w u (toL a k s (L.take j)) wr) (fun _ i _ => L.length - (intOf i).toNat)
 case atStart => exact ⟨0, rfl, by omega, by simp [go_sem], (Ext.auto), World.ownsRow_nil _ _ _ _⟩
 case round =>
  obtain ⟨j, rfl, hj, hM⟩ := hrel
  have hmb := hM.1
  have hlb := blk_lt hM.1
  have c1 := mc_at hM.1
  have c2 := mc_k hM.1
  have c3 := mc_s hM.1
  have hlen := toL_len a k s (L.take j)
  rw [List.length_take] at hlen
  have HM := hid hM
  by_cases hlt : j < L.length
  ·obtain ⟨b, off, rfl, hbl, hcl⟩ := (HS.out.ext hM.2.1).pos (by omega)
   obtain ⟨t, ht⟩ : ∃ t, L[j]? = some t := ⟨_, List.getElem?_eq_getElem hlt⟩
   have cg := hcl j _ (ints_get ht)
   have HT := hid (toL_snoc (a := a) (k := k) (s := s) ht)
   clear hcl ht hM hmb
   by_cases hp : k = 1 ∧ rankOf t = 7 * (1 - s)
   ·obtain ⟨g1, g2⟩ := hp
    have hk1 : (k != 1) = false := by simp [g1]
    have hr1 : (rankOf t != 7 * (1 - s)) = false := by simp [g2]
    have HO := hid (show toOne a k s t = promos a t from if_pos ⟨g1, g2⟩)
    clear g1 g2
    go_wp2
    refine wp_quiet (by kernel_rfl) (by kernel_rfl) ?_; (repeat (first | go_big_quiet_step ((go_at_call 143; with_reducible exact Calls.reg (Rank_any _ _))) | quiet_step ((go_at_call 143; with_reducible exact Calls.reg (Rank_any _ _))))); refine wpQuiet_nil ?_; intro w1 hx; obtain ⟨hxc, hxf, hxb, hxs⟩ := hx.als; (try have := sW w w1); (try have := sW wr w1)
    go_wp2
    have hM1 := HM.out.ext hx
    clear hx hxc hxf hxb hxs hlb c1 c2 c3 HM
    generalize hpre : toL a k s (L.take j) = pre at *
    have HPre := hid hpre
    clear hpre
    obtain ⟨wo, hwo⟩ : ∃ wo : World, wo = w1 := ⟨_, rfl⟩
    rw [← hwo] at hM1 ⊢
    clear hwo
    go_loopw [4, 7] (fun u i wq => ∃ κ : Nat, i = .int .i64 κ ∧ 2 ≤ κ ∧ κ ≤ 6 ∧ MSt p a k s w u (pre ++ (promos a t).take (κ - 2)) wq) (fun _ i _ => 6 - (intOf i).toNat)
    case atStart => exact ⟨2, rfl, by omega, by omega, by simpa using hM1⟩
    case round =>
     obtain ⟨κ, rfl, hκ0, hκ, hM2⟩ := hrel
     have hlb2 := blk_lt hM2.1
     have d1 := mc_at hM2.1
     have hpl : (pre ++ (promos a t).take (κ - 2)).length ≤ 5000 := by
      rw [List.length_append, List.length_take]; omega
     have HM2 := hid hM2
     clear hM2 hM1
     by_cases hk5 : κ ≤ 5
     ·have hP := hid (show pre ++ (promos a t).take (κ + 1 - 2) = (pre ++ (promos a t).take (κ - 2)) ++ [⟨a, t, κ⟩] by
       rcases (by omega : κ = 2 ∨ κ = 3 ∨ κ = 4 ∨ κ = 5) with rfl | rfl | rfl | rfl <;> simp [promos])
      go_wp2_with (at_builtin; refine wpList_append_mv rfl _ _ rfl (w.heap.size + 1) _ (pre ++ (promos a t).take (κ - 2)) rfl (own_ext HM2.out.2.2 (Ext.alloc (Ext.refl _) _)) _ ⟨a, t, κ⟩ rfl (blk_alloc_at _ _ _ rfl) (by omega) (by simp; omega) (fun v' w2 hown2 hg2 hf2 => ?_))
      go_roundw
      case rel => exact ⟨κ + 1, by go_num, by omega, by omega, by rw [hP.out]; exact (HM2.out.ext (Ext.alloc (Ext.refl _) _)).put hown2 hg2⟩
      case measure => simp [intOf]; omega
     ·obtain rfl : κ = 6 := by omega
      have hP := hid (show toL a k s (L.take (j + 1)) = pre ++ (promos a t).take (6 - 2) by rw [HT.out, HO.out]; rfl)
      go_wp2
      go_roundw
      case rel => exact ⟨j + 1, by go_num, by omega, by rw [hP.out]; exact HM2.out⟩
      case measure => simp [intOf]; omega
   ·have HO := hid (show toOne a k s t = [⟨a, t, 0⟩] from if_neg hp)
    have hd : (k != 1) = true ∨ ((k != 1) = false ∧ (rankOf t != 7 * (1 - s)) = true) := by
     by_cases h : k = 1
     ·exact .inr ⟨by simp [h], by simp; exact fun h2 => hp ⟨h, h2⟩⟩
     ·exact .inl (by simp [h])
    clear hp
    rcases hd with g1 | ⟨g1, g2⟩
    all_goals
     go_wp2
     refine wp_quiet (by kernel_rfl) (by kernel_rfl) ?_; (repeat (first | go_big_quiet_step ((go_at_call 143; with_reducible exact Calls.reg (Rank_any _ _))) | quiet_step ((go_at_call 143; with_reducible exact Calls.reg (Rank_any _ _))))); refine wpQuiet_nil ?_; intro w1 hx; obtain ⟨hxc, hxf, hxb, hxs⟩ := hx.als; (try have := sW w w1); (try have := sW wr w1)
     go_wp2_with (at_builtin; refine wpList_append_mv rfl _ _ rfl (w.heap.size + 1) u4 (toL a k s (L.take j)) rfl (own_ext HM.out.2.2 (Ext.trans hx (Ext.alloc (Ext.refl _) _))) w1.heap.size ⟨a, t, 0⟩ rfl (blk_alloc_at _ _ _ rfl) (by omega) (by simp; omega) (fun v' w2 hown2 hg2 hf2 => ?_))
     go_roundw
     case rel => exact ⟨j + 1, by go_num, by omega, by rw [HT.out, HO.out]; exact (HM.out.ext (Ext.trans hx (Ext.alloc (Ext.refl _) _))).put hown2 hg2⟩
     case measure => simp [intOf]; omega
  ·obtain rfl : j = L.length := by omega
   rw [List.take_length] at hM
   have HM2 := hid hM
   clear hM HM hmb
   go_wp2
   go_ret
   exact RetMvs.mk' HM2.out.2.2 rfl rfl (by omega) HM2.out.2.1
def moverB (p : Pos) (s : Nat) : Bool := decide (1 ≤ p.kind s ∧ p.kind s ≤ 6 ∧ (p.side s = 0 ∨ p.side s = 1) ∧ p.side s = p.turn)
def moversL (p : Pos) (n : Nat) : List Nat := (List.range n).filter (moverB p)
theorem moversL_succ (p : Pos) (n : Nat) : moversL p (n + 1) = moversL p n ++ if moverB p n = true then [n] else [] := by
 unfold moversL
 rw [List.range_succ, List.filter_append]
 congr 1
 simp only [List.filter_cons, List.filter_nil]
theorem moversL_len (p : Pos) (n : Nat) : (moversL p n).length ≤ n := Nat.le_trans (List.length_filter_le _ _) (by simp)
theorem operIn_build_mover {F : Fence} {n : Nat} {a : Act} {w : World} {K : Act → World → Prop} {Q : Exit → Act → World → Prop} {dst : Option Tmp} {x y z : Operand} {ty : TypeId} {pos : String} {af : Array Edge} {g : Option (Nat × Bool)}
 {p : Pos} {t k s : Int} (hx : a.eval x = .agg (posCells p)) (hy : a.eval y = .int .i64 t) (hz : a.eval z = .agg #[.int .i64 k, .int .i64 s])
 (h : K (a.put dst (.agg (moverCells p t k s))) w) : (⟨dst, .build 219 #[(0, x), (1, y), (2, z)], ty, pos, af, g⟩ : Oper).wpIn F n Tryz.prog a w K Q := by
 have hrun : (execOp a.eval ⟨dst, .build 219 #[(0, x), (1, y), (2, z)], ty, pos, af, g⟩).run Tryz.prog w = .ok (.value (.agg (moverCells p t k s))) w := by
  rw [build_mover, hx, hy, hz]
  have hs : posCells p ++ (#[.int .i64 t] ++ #[.int .i64 k, .int .i64 s]) = moverCells p t k s := mover_fold p t k s
  unfold buildAll
  rw [if_pos (by simp [Value.cells, posCells_size])]
  simp only [concatV, Value.cells]
  rw [← hs]
 unfold Oper.wpIn
 refine ⟨?_, ?_⟩
 ·intro f hf; simp [Oper.about] at hf
 ·rw [Oper.semAt_plain F _ _ (by intro c hc'; cases hc'), hrun]
  exact h
def KeepP (bf : Nat) (A B : World) : Prop := A.heap.size ≤ B.heap.size ∧ blk B bf = blk A bf
theorem movers_in (n : Nat) (hn : 1 ≤ n) (l : Nat) (p : Pos) (bf : Nat) (J Jx : List Nat → World → Prop)
 (hY : ∀ (pre : List Nat) (x : Nat) (W1 : World), x < 64 → moverB p x = true → J pre W1 → pre.length < 64 → YieldAt Fence.wide (n - 1) Tryz.prog l #[.agg (moverCells p (x : Int) (p.kind x) (p.side x))] W1 fun e W' => (e = .returned (.bool true) ∧ J (pre ++ [x]) W' ∧ KeepP bf W1 W') ∨ (e = .returned (.bool false) ∧ Jx (pre ++ [x]) W'))
 (W : World) (hJ : AbidesFrom W.heap.size J) (hC : blk W bf = some (.cells (posCells p) 30 (0, 0))) (h0 : J [] W) :
 CallsIn Fence.wide n Tryz.prog 199 #[.func (.yield l) #[] #[], .pointer (some ⟨bf, 0, none⟩)] W fun e W' => (∃ v, e = .returned v) ∧
  ((∃ xs, xs = moversL p 64 ∧ J xs W') ∨ (∃ pre : List Nat, True ∧ Jx pre W')) := by
 have hcF := blk_cell hC
 have hb1 := hC
 refine callsIn_of_wp Tryz.func199 rfl trivial ?_ rfl
 simp only [Tryz.ntmps199, List.size_toArray, List.length_cons, List.length_nil, Nat.reduceAdd, Nat.reduceSub, Array.replicate_succ, Array.replicate_zero, List.push_toArray, List.append_toArray, List.nil_append, List.cons_append]
 gi_wp2_with (refine wpListIn_load_row (T := 27) (m := 128) Tryz.underlying27 rfl (by kernel_rfl) rfl hb1 (by rw [posCells_size]; decide) ?_)
 try simp only [posCells_sq, Nat.zero_add]
 gi_loopw [8] (fun i wr => ∃ k : Nat, i = .int .i64 k ∧ k ≤ 64 ∧ blk wr bf = some (.cells (posCells p) 30 (0, 0)) ∧ W.heap.size ≤ wr.heap.size ∧ J (moversL p k) wr) (fun i _ => 64 - (intOf i).toNat)
 case atStart => exact ⟨0, rfl, by omega, hC, Nat.le_refl _, h0⟩
 case round =>
  obtain ⟨k, rfl, hk, hCr, hWr, hJr⟩ := hrel
  clear hcF hb1 hC h0
  have ct := blk_cell hCr 128
  simp only [go_sem] at ct
  have lf := blk_lt hCr
  have HC := hid hCr
  clear hCr
  by_cases hlt : k < 64
  ·by_cases hA : moverB p k = true
   ·have hA' := hA
    simp only [moverB, decide_eq_true_eq] at hA'
    obtain ⟨a1, a2, a3, a4⟩ := hA'
    have HA := hid hA
    clear hA
    rcases a3 with a3 | a3
    ·have a4' : p.turn = 0 := by omega
     obtain ⟨w8, hw8⟩ : ∃ w8, w8 = wr.alloc (.cells #[.int .i64 (p.kind k), .int .i64 0] 26 (0, 0)) := ⟨_, rfl⟩
     have hx8 : Ext wr w8 := by rw [hw8]; exact Ext.alloc (Ext.refl _) _
     have hJ8 : J (moversL p k) w8 := hJ _ _ _ none hJr (Ext.grownNone hx8) (fun r e => by cases e)
     obtain ⟨fn, tmps, assign, body, hy, hR⟩ := hY _ k w8 hlt HA.out hJ8 (Nat.lt_of_le_of_lt (moversL_len p k) hlt)
     rw [a3] at hy
     have hle8 := hx8.le
     rw [hw8] at hy hR
     gi_wp2_with (first
      | (refine hR.mono ?_; rintro e W3 (⟨rfl, hJ3, hk3⟩ | ⟨rfl, hJx3⟩))
      | (refine operIn_load_row (m := 133) Tryz.underlying30 rfl (by kernel_rfl) rfl ((Ext.alloc (Ext.refl wr) _).blk _ lf |>.trans HC.out) (by rw [posCells_size]; decide) ?_)
      | (refine operIn_build_mover (p := p) (t := (k : Int)) (k := p.kind k) (s := 0) rfl rfl rfl ?_))
     ·go_roundw
      case rel => exact ⟨k + 1, by go_num, by omega, hk3.2.trans (((Ext.alloc (Ext.refl wr) _).blk _ lf).trans HC.out), by have := hk3.1; rw [← hw8] at this; omega, by rw [moversL_succ, if_pos HA.out]; exact hJ3⟩
      case measure => simp [intOf]; omega
     ·exact bodyPost_ret (results_none rfl _ _ _) rfl ⟨⟨_, rfl⟩, .inr ⟨_, trivial, hJx3⟩⟩
    ·have a4' : p.turn = 1 := by omega
     obtain ⟨w8, hw8⟩ : ∃ w8, w8 = wr.alloc (.cells #[.int .i64 (p.kind k), .int .i64 1] 26 (0, 0)) := ⟨_, rfl⟩
     have hx8 : Ext wr w8 := by rw [hw8]; exact Ext.alloc (Ext.refl _) _
     have hJ8 : J (moversL p k) w8 := hJ _ _ _ none hJr (Ext.grownNone hx8) (fun r e => by cases e)
     obtain ⟨fn, tmps, assign, body, hy, hR⟩ := hY _ k w8 hlt HA.out hJ8 (Nat.lt_of_le_of_lt (moversL_len p k) hlt)
     rw [a3] at hy
     have hle8 := hx8.le
     rw [hw8] at hy hR
     gi_wp2_with (first
      | (refine hR.mono ?_; rintro e W3 (⟨rfl, hJ3, hk3⟩ | ⟨rfl, hJx3⟩))
      | (refine operIn_load_row (m := 133) Tryz.underlying30 rfl (by kernel_rfl) rfl ((Ext.alloc (Ext.refl wr) _).blk _ lf |>.trans HC.out) (by rw [posCells_size]; decide) ?_)
      | (refine operIn_build_mover (p := p) (t := (k : Int)) (k := p.kind k) (s := 1) rfl rfl rfl ?_))
     ·go_roundw
      case rel => exact ⟨k + 1, by go_num, by omega, hk3.2.trans (((Ext.alloc (Ext.refl wr) _).blk _ lf).trans HC.out), by have := hk3.1; rw [← hw8] at this; omega, by rw [moversL_succ, if_pos HA.out]; exact hJ3⟩
      case measure => simp [intOf]; omega
     ·exact bodyPost_ret (results_none rfl _ _ _) rfl ⟨⟨_, rfl⟩, .inr ⟨_, trivial, hJx3⟩⟩
   ·have hA2 : ¬(1 ≤ p.kind k ∧ p.kind k ≤ 6 ∧ (p.side k = 0 ∨ p.side k = 1) ∧ p.side k = p.turn) := fun h => hA (decide_eq_true h)
    have HA := hid hA
    clear hA
    gi_wp2
    all_goals (first | (exfalso; omega) | skip)
    all_goals
     go_roundw
     case rel => exact ⟨k + 1, by go_num, by omega, ((Ext.alloc (Ext.refl wr) _).blk _ lf).trans HC.out, by simp; omega, by rw [moversL_succ, if_neg HA.out]; simpa using hJ _ _ _ none hJr (Ext.grownNone (Ext.alloc (Ext.refl wr) _)) (fun r e => by cases e)⟩
     case measure => simp [intOf]; omega
  ·gi_wp2
   obtain rfl : k = 64 := by omega
   go_end0
   exact ⟨⟨_, rfl⟩, .inl ⟨_, rfl, hJr⟩⟩
def noDeferB (l : List Oper) : Bool := l.all fun o => match o.op with | .defer _ => false | _ => true
theorem noDefer_spec {l : List Oper} (h : noDeferB l = true) : ∀ (j : Nat) (o : Oper), l.toArray[j]? = some o → ∀ c, o.op ≠ .defer c := by
 intro j o ho c hc
 have hm : o ∈ l := List.mem_of_getElem? (by simpa using ho)
 have := List.all_eq_true.1 h o hm
 rw [hc] at this
 cases this
theorem operIn_of_plain {P : Program} {o : Oper} {a : Act} {w : World} {K K' : Act → World → Prop} {Q : Exit → Act → World → Prop} (hd : ∀ c, o.op ≠ .defer c) (l n : Nat) (hL : ¬ LetsOut Q) (hK : ∀ a w, K a w → K' a w) (h : o.wp P a w K Q) :
 o.wpIn (Fence.wide.inRound l) n P a w K' Q := by
 unfold Oper.wp at h
 unfold Oper.wpIn
 refine ⟨fun _ _ => trivial, ?_⟩
 rw [Oper.semAt_plain _ _ _ hd]
 generalize (execOp a.eval o).run P w = r at h ⊢
 cases r with
 | ok x w' =>
   cases x with
   | value v => exact hK _ _ h
   | skip => exact hK _ _ h
   | defer d => exact hK _ _ h
   | enter f args =>
     refine ⟨fun e => (by cases e), CallsIn.inRound l (callsIn_wide.2 (Calls.mono h ?_))⟩
     intro e w'' he
     cases e with
     | returned v => exact hK _ _ he
     | panicked c => exact he
     | outgrown => exact he
   | row r args =>
     refine ⟨fun e => (by cases e), ?_⟩
     intro c cs _
     obtain ⟨v, w'', hr, s⟩ := h c cs
     exact ⟨v, w'', hK _ _ hr, stepsIn_wide.2 s⟩
   | _ => exact h.elim
 | halt x w' =>
   cases x with
   | panic v => exact h
   | _ => exact h.elim
theorem wpAnyIn_of_any {P : Program} {md : Region.Mode} {ops : List Oper} {Q : Exit → Act → World → Prop} (hd : noDeferB ops = true) (l n : Nat) (hL : ¬ LetsOut Q) : ∀ (fuel : Nat) (listed : Array Bool) (a : Act) (w : World), wpAny P md ops.toArray Q fuel listed a w → wpAnyIn (Fence.wide.inRound l) n P md ops.toArray Q fuel listed a w
 | 0, _, _, _, h => h
 | fuel + 1, listed, a, w, h => by
   refine ⟨h.1, fun i hi => ?_⟩
   have h2 := h.2 i hi
   unfold wpOp at h2
   unfold wpOpIn
   cases ho : ops.toArray[i]? with
   | none => rw [ho] at h2; exact wpAnyIn_of_any hd l n hL _ _ _ _ h2
   | some o =>
     rw [ho] at h2
     dsimp only at h2 ⊢
     split at h2
     ·rename_i hw
      rw [if_pos hw]
      rcases h2 with h2 | h2
      ·exact operIn_of_plain (noDefer_spec hd _ _ ho) l n hL (fun a w h => wpAnyIn_of_any hd l n hL _ _ _ _ h) h2
      ·exact absurd h2.2 hL
     ·rename_i hw
      rw [if_neg hw]
      exact ⟨fun _ _ => trivial, wpAnyIn_of_any hd l n hL _ _ _ _ h2⟩
theorem wpIn_round_split {P : Program} {id : Nat} {Q : Exit → Act → World → Prop} {a : Act} {w : World} {ls : List Oper} (n : Nat) (S : World → Prop) (l m : Nat) (hL : ¬ LetsOut Q) (hm : P.follows .mixedOrders = true) (hB : splitB ls n = true) (hD : noDeferB ls = true) (hS : S w.drew)
 (h : S w.drew → wpAnyH P .any (ls.take n).toArray (splitQ P ls.toArray (ls.drop n) Q) S n (Array.replicate n false) a w.drew) : (Code.region id ls.toArray true).wpIn (Fence.wide.inRound l) m P Q a w := by
 refine wpIn_region_any hm (wpAnyIn_of_any hD l m hL _ _ _ _ ?_)
 have hn : n < ls.length := by
  simp only [splitB, Bool.and_eq_true, decide_eq_true_eq] at hB
  exact hB.1.1.1.1
 have inv0 : HeadInv .any ls.toArray n (Array.replicate ls.toArray.size false) :=
  ⟨by simp, fun j oj _ hl => (by rw [getD_replicate_false] at hl; cases hl), fun t _ ht => getD_in (by simpa using ht) (getD_replicate_false _ _)⟩
 have hh : headOf (Array.replicate ls.toArray.size false) n = Array.replicate n false := by
  unfold headOf
  apply Array.ext_getElem?
  intro k
  simp only [Array.toList_replicate, List.take_replicate, List.getElem?_toArray, List.getElem?_replicate, Array.getElem?_replicate, List.size_toArray]
  by_cases hk : k < n
  ·rw [if_pos (by omega), if_pos hk]
  ·rw [if_neg (by omega), if_neg hk]
 have hop : openAt (Array.replicate ls.toArray.size false) n = n := by
  unfold openAt
  simp [List.take_replicate]
  rw [List.countP_eq_length.2 (by intro x hx; rw [List.eq_of_mem_replicate hx]; rfl)]
  simp; omega
 have H := wpAny_split (P := P) (Q := Q) hB n (Array.replicate ls.toArray.size false) a w.drew inv0 hop (by rw [hh]; exact wpAny_of_held _ _ _ _ (h hS))
 have e : n + (ls.length - n) = ls.toArray.size := by simp; omega
 rw [e] at H
 exact H
theorem wpIn_round_held {P : Program} {id : Nat} {Q : Exit → Act → World → Prop} {a : Act} {w : World} {ls : List Oper} (S : World → Prop) (l m : Nat) (hL : ¬ LetsOut Q) (hm : P.follows .mixedOrders = true) (hD : noDeferB ls = true) (hS : S w.drew)
 (h : S w.drew → wpAnyH P .any ls.toArray Q S ls.toArray.size (Array.replicate ls.toArray.size false) a w.drew) : (Code.region id ls.toArray true).wpIn (Fence.wide.inRound l) m P Q a w :=
 wpIn_region_any hm (wpAnyIn_of_any hD l m hL _ _ _ _ (wpAny_of_held _ _ _ _ (h hS)))
end Go.Proofs.YtdmgimfgoajmjaaGreatDoor
