/- Regions that leave their order open, of reads and of calls that only lay new blocks: walked once, in the text's order. -/
import Derived.Test.YtdmgimfgoajmjaaGreatDoorC01
import Derived.Lib.QuietBelow
import Derived.Test.YtdmgimfgoajmjaaGreatDoorC03
import Derived.Lib.BufferOwn
import Derived.StillTail
import Derived.StillTailTactics
import Derived.Deep.RegionHeld3
set_option linter.unusedVariables false
set_option linter.unusedSimpArgs false
namespace Go.Proofs.YtdmgimfgoajmjaaGreatDoor
open Go.RowKit Go.Sort
def grown (w : World) (p : Regrown) : World := grow (redrawn w p.d) p.os
theorem ext_grown (w : World) (p : Regrown) : Ext w (grown w p) := below_regrown w p.d p.os
@[go_sem] theorem cell_grown (w : World) (p : Regrown) (b o : Nat) (h : b < w.heap.size) : (grown w p).cell? ⟨b, o, none⟩ = w.cell? ⟨b, o, none⟩ := (ext_grown w p).cell b o h
@[go_sem] theorem froz_grown (w : World) (p : Regrown) (b o : Nat) (h : b < w.heap.size) : (grown w p).frozen? ⟨b, o, none⟩ = w.frozen? ⟨b, o, none⟩ := (ext_grown w p).froz b o h
@[go_sem] theorem blk_grown (w : World) (p : Regrown) (b : Nat) (h : b < w.heap.size) : blk (grown w p) b = blk w b := (ext_grown w p).blk b h
theorem wp_quiet {P : Program} {id : Nat} {Q : Exit → Act → World → Prop} {a : Act} {w : World} {l : List Oper} (hm : P.follows .mixedOrders = true) (hB : Region.lexB .any l.toArray = true)
 (h : wpQuiet P l.toArray (fun w' => ∃ p : Regrown, w' = grown w p) (fun a' => ∀ w', Ext w w' → Q .normal a' w') l a) : (Code.region id l.toArray true).wp P Q a w := by
 refine wp_region_quiet (C := fun w' => ∃ p : Regrown, w' = grown w p) hm hB ⟨⟨w.drawn + 1, #[]⟩, by unfold grown; rw [grow_empty]; rfl⟩ ?_
 have e : (fun a' => ∀ w', (∃ p : Regrown, w' = grown w p) → Q .normal a' w') = (fun a' => ∀ w', Ext w w' → Q .normal a' w') := by
  funext a'
  apply propext
  constructor
  ·intro h w' hw'; exact h w' (regrown_of_below hw')
  ·rintro h w' ⟨p, rfl⟩; exact h _ (ext_grown w p)
 rw [e]
 simpa using h
theorem Calls.reg {P : Program} {f : FuncId} {args : Array Value} {w : World} {p : Regrown} {v : Value}
 (h : Calls P f args (grown w p) (Ret v (grown w p))) : Calls P f args (grown w p) fun e w'' => e = .returned v ∧ ∃ q : Regrown, w'' = grown w q :=
 h.mono fun _ _ ⟨he, hx⟩ => ⟨he, regrown_of_below ((ext_grown w p).trans hx)⟩
end Go.Proofs.YtdmgimfgoajmjaaGreatDoor
namespace Go.Proofs.YtdmgimfgoajmjaaGreatDoor
open Go.RowKit
theorem own_alloc {w : World} {base e size n : Nat} {v : Value} {xs : List Value} (h : w.ownsRow base e size v n xs) (o : Obj) : (w.alloc o).ownsRow base e size v n xs := h.alloc o
theorem own_blocks {w w' : World} {base e size n : Nat} {v : Value} {xs : List Value} (h : w.ownsRow base e size v n xs) (hb : ∀ b, v.ownBlock = some b → w'.heap[b]? = w.heap[b]?) : w'.ownsRow base e size v n xs := by
 refine ⟨h.1, ?_⟩
 rcases h.2 with hn | ⟨g, cap, cur, rfl, hbg, hgg, rest⟩
 ·exact .inl hn
 ·exact .inr ⟨g, cap, cur, rfl, hbg, by rw [hb g rfl]; exact hgg, rest⟩
theorem own_ext {w w' : World} {base e size n : Nat} {v : Value} {xs : List Value} (h : w.ownsRow base e size v n xs) (hx : Ext w w') : w'.ownsRow base e size v n xs :=
 own_blocks h fun b hb => hx.blk b (h.lt b hb).2
theorem own_drew {w : World} {base e size n : Nat} {v : Value} {xs : List Value} (h : w.ownsRow base e size v n xs) : w.drew.ownsRow base e size v n xs := own_blocks h fun _ _ => rfl
theorem own_auto {w : World} {base e size n : Nat} {v : Value} {xs : List Value} (h : w.ownsRow base e size v n xs := by repeat (first | (with_reducible assumption) | (with_reducible apply own_alloc) | (with_reducible apply own_drew) | (with_reducible refine own_ext ?_ (by assumption)))) : w.ownsRow base e size v n xs := h
theorem own_set {w : World} {base e size n : Nat} {v : Value} {xs : List Value} (h : w.ownsRow base e size v n xs) {a : Addr} (ha : a.block < base) (u : Value) : (w.setCell a u).ownsRow base e size v n xs := ownsRow_setCell_below h ha u
theorem own_base {w : World} {base base' e size n : Nat} {v : Value} {xs : List Value} (h : w.ownsRow base e size v n xs) (hb : base' ≤ base) : w.ownsRow base' e size v n xs := by
 refine ⟨h.1, ?_⟩
 rcases h.2 with hn | ⟨g, cap, cur, hv, hbg, rest⟩
 ·exact .inl hn
 ·exact .inr ⟨g, cap, cur, hv, Nat.le_trans hb hbg, rest⟩
theorem Ext.grown {a w w' : World} {e size n : Nat} {v : Value} {xs : List Value} (h : Ext a w) (ho : w.ownsRow a.heap.size e size v n xs) (hg : w.grownBy w' v.ownBlock) : Ext a w' :=
 Below.grown h hg h.size fun k hk => (ho.lt k hk).1
theorem grown_blk {w w' : World} {r : Option Nat} (hg : w.grownBy w' r) (b : Nat) (hb : b < w.heap.size) (hr : some b ≠ r) : blk w' b = blk w b := hg.block b hb hr
def Sl (w : World) (size : Nat) (v : Value) (n : Nat) (cells : List Value) : Prop :=
 cells.length = n * size ∧ ((v = .slice none 0 0 ∧ n = 0) ∨ ∃ b off cap, v = .slice (some ⟨b, off, none⟩) n cap ∧ b < w.heap.size ∧ ∀ j u, cells[j]? = some u → w.cell? ⟨b, off + j, none⟩ = some u)
theorem Sl.ext {w w' : World} {size n : Nat} {v : Value} {cs : List Value} (h : Sl w size v n cs) (hx : Ext w w') : Sl w' size v n cs := by
 refine ⟨h.1, ?_⟩
 rcases h.2 with h | ⟨b, off, cap, hv, hb, hc⟩
 ·exact .inl h
 ·exact .inr ⟨b, off, cap, hv, Nat.lt_of_lt_of_le hb hx.le, fun j u hu => by rw [hx.cell _ _ hb]; exact hc j u hu⟩
theorem Sl.of_own {w : World} {base e size n : Nat} {v : Value} {xs : List Value} (h : w.ownsRow base e size v n xs) : Sl w size v n xs := by
 refine ⟨h.1, ?_⟩
 rcases h.2 with h2 | ⟨g, cap, cur, rfl, hbg, hgg, h1, h3, h4, h5⟩
 ·exact .inl h2
 ·refine .inr ⟨g, 0, cap, rfl, (Array.getElem?_eq_some_iff.1 hgg).1, fun j u hu => ?_⟩
  rw [cell_of_row w g (0 + j) cur e (0, 0) hgg, ← Array.getElem?_toList]
  rw [← h5, List.getElem?_take] at hu
  split at hu
  ·simpa using hu
  ·cases hu
theorem Sl.of_blk {w : World} {b : Nat} {cs : Array Value} {t : TypeId} {fr : Nat × Nat} (h : blk w b = some (.cells cs t fr)) (size n : Nat) (hn : cs.size = n * size) (cap : Nat) : Sl w size (.slice (some ⟨b, 0, none⟩) n cap) n cs.toList := by
 refine ⟨by simpa using hn, .inr ⟨b, 0, cap, rfl, blk_lt h, fun j u hu => ?_⟩⟩
 rw [blk_cell h, ← Array.getElem?_toList]; simpa using hu
theorem info_int : (Tryz.prog.info? 3).map (fun i => (i.zero, i.size, i.bytes)) = some (some (.int .i64 0), 1, 8) := by kernel_rfl
theorem wpList_append_int {ops : Array Oper} {rest : List Oper} {o : Oper} {a : Act} {w : World} {Q : Exit → Act → World → Prop} (hgd : o.guard = none) (s x : Operand)
 (ho : o.op = .call { callee := .builtin .append, args := #[s, x], argTypes := #[43, 43] })
 (base : Nat) (v : Value) (n : Nat) (xs : List Value) (hs : a.eval s = v) (hown : w.ownsRow base 3 1 v n xs) (g : Nat) (y : Value) (hx : a.eval x = .slice (some ⟨g, 0, none⟩) 1 1)
 (hy : y.oneCell' = true) (hg : w.cell? ⟨g, 0, none⟩ = some y) (hn : n ≤ 1000000) (hbase : base ≤ w.heap.size)
 (h : ∀ v' w', w'.ownsRow base 3 1 v' (n + 1) (xs ++ [y]) → w.grownBy w' v.ownBlock → wpList Tryz.prog ops Q rest (a.put o.dst v') w') : wpList Tryz.prog ops Q (o :: rest) a w := by
 obtain ⟨i0, hi0, hz0, hz1, hz2⟩ := info_parts info_int
 refine wpList_append_own w hgd s x 43 ho base 3 i0 (.int .i64 0) 1 8 Tryz.underlying43 hi0 hz0 hz1 hz2 rfl (by decide) v n xs hs hown ⟨g, 0, none⟩ 1 1 [y] hx rfl ?_ ?_ ?_ ?_ hbase fun v' w' h1 h2 _ => h v' w' h1 h2
 ·intro j u hu
  cases j with
  | zero => simp only [List.getElem?_cons_zero, Option.some.injEq] at hu; subst hu; exact hg
  | succ j => simp at hu
 ·intro u hu; simp only [List.mem_singleton] at hu; subst hu; exact hy
 ·simp only [maxLen]; omega
 ·omega
def Chg (b : Nat) (w w' : World) : Prop := w.grownBy w' (some b)
theorem Chg.refl (b : Nat) (w : World) : Chg b w w := ⟨rfl, rfl, rfl, Nat.le_refl _, fun _ _ _ => rfl⟩
theorem Chg.trans {b : Nat} {a w w' : World} (h : Chg b a w) (k : Chg b w w') : Chg b a w' := Lib.grownBy_trans h k
theorem Chg.alloc {b : Nat} {a w : World} (h : Chg b a w) (o : Obj) : Chg b a (w.alloc o) := h.trans (World.grownBy_alloc w o _)
theorem Chg.drew {b : Nat} {a w : World} (h : Chg b a w) : Chg b a w.drew := ⟨h.os, h.tape, h.output, h.size, h.block⟩
theorem Chg.set {b : Nat} {a w : World} (h : Chg b a w) {p : Addr} (hp : p.block = b) (u : Value) : Chg b a (w.setCell p u) := by
 refine h.trans ⟨rfl, rfl, rfl, by simp [World.setCell], fun k hk hne => ?_⟩
 exact heap_setCell_other w p k u (fun e => hne (by rw [← hp, ← e]))
theorem Chg.ext {b : Nat} {w w' : World} (h : Ext w w') : Chg b w w' := ⟨h.os, h.tape, h.output, h.size, fun i hi _ => h.block i hi⟩
theorem Chg.exts {b : Nat} {a w w' : World} (h : Chg b a w) (k : Ext w w') : Chg b a w' := h.trans (Chg.ext k)
theorem Chg.auto {b : Nat} {a w : World} (h : Chg b a w := by repeat (first | (with_reducible exact Chg.refl _ _) | (with_reducible assumption) | (with_reducible apply Chg.alloc) | (with_reducible apply Chg.drew) | (with_reducible refine Chg.set ?_ rfl _) | (with_reducible refine Chg.trans ?_ (by assumption)) | (with_reducible refine Chg.exts ?_ (by assumption)))) : Chg b a w := h
theorem Chg.blk {b : Nat} {w w' : World} (h : Chg b w w') (k : Nat) (hk : k < w.heap.size) (hne : k ≠ b) : blk w' k = blk w k := h.block k hk (fun e => hne (Option.some.inj e))
theorem Chg.le {b : Nat} {w w' : World} (h : Chg b w w') : w.heap.size ≤ w'.heap.size := h.size
theorem Ext.chg {b : Nat} {a w w' : World} (h : Ext a w) (hb : a.heap.size ≤ b) (k : Chg b w w') : Ext a w' := Below.grown h k h.size fun r hr => (Option.some.inj hr) ▸ hb
theorem Chg.cells {b : Nat} {w w' : World} (h : Chg b w w') {k : Nat} {o : Obj} (hk : Go.Proofs.YtdmgimfgoajmjaaGreatDoor.blk w k = some o) (hne : k ≠ b) : Go.Proofs.YtdmgimfgoajmjaaGreatDoor.blk w' k = some o := (h.blk k (blk_lt hk) hne).trans hk
theorem setRow_blk {w : World} {g : Nat} {old cs : Array Value} {t : TypeId} {fr : Nat × Nat} (h : blk w g = some (.cells old t fr)) : blk (w.setRow g cs) g = some (.cells cs t fr) := setRow_heap w g old cs t fr h
theorem setRow_blk_past {w : World} {g k : Nat} {cs : Array Value} (h : k ≠ g) : blk (w.setRow g cs) k = blk w k := setRow_other w g k cs h
theorem Chg.setRow {b g : Nat} {a w : World} (h : Chg b a w) (hg : a.heap.size ≤ g) (cs : Array Value) : Chg b a (w.setRow g cs) :=
 ⟨by simpa using h.os, by simpa using h.tape, by simpa using h.output, by simpa using h.size, fun k hk hne => (setRow_other w g k cs (by omega)).trans (h.block k hk hne)⟩
theorem Ext.setRow {g : Nat} {a w : World} (h : Ext a w) (hg : a.heap.size ≤ g) (cs : Array Value) : Ext a (w.setRow g cs) :=
 ⟨by simpa using h.os, by simpa using h.tape, by simpa using h.output, by simpa using h.size, fun k hk => (setRow_other w g k cs (by omega)).trans (h.block k hk)⟩
theorem loadVar_row {P : Program} {T n : Nat} {d : TypeDesc} (hu : P.underlying T = some d) (hd : (match d with | .struct _ | .array _ _ => true | _ => false) = true) (hi : (P.info? T).map (·.size) = some n)
 {w : World} {b : Nat} {cs : Array Value} {t : TypeId} {fr : Nat × Nat} (hb : blk w b = some (.cells cs t fr)) (hn : cs.size = n) : (loadVar T ⟨b, 0, none⟩).run P w = .ok (.agg cs) w := by
 have hl : (loadCells ⟨b, 0, none⟩ cs.toList.length).run P w = .ok cs.toList.toArray w :=
  run_loadCells_list (P := P) w ⟨b, 0, none⟩ cs.toList (fun j v hv => by
   have hadd : (⟨b, 0, none⟩ : Addr).add j = ⟨b, j, none⟩ := by unfold Addr.add; split <;> simp_all
   rw [hadd, cell_of_row w b j cs t fr hb]
   simpa using hv)
 have hlen : cs.toList.length = n := by simpa using hn
 rw [hlen, Array.toArray_toList] at hl
 cases hq : P.info? T with
 | none => simp [hq] at hi
 | some i =>
   have hs : i.size = n := by simpa [hq] using hi
   have hagg : (isAgg T).run P w = .ok true w := by
    unfold isAgg
    rw [Sem.run_bind, run_underlying hu w]
    cases d <;> simp_all
   simp [loadVar, Sem.run_bind, hagg, sizeOf, typeInfo, hq, hs, hl]
theorem results_cell {P : Program} {fn : Func} {tmps : Array Value} {w : World} {a t b : Nat} {v : Value} (hf : fn.results = #[.cell a t]) (ht : tmps.getD a undef = .pointer (some ⟨b, 0, none⟩)) (hl : (loadVar t ⟨b, 0, none⟩).run P w = .ok v w) :
 (results fn tmps).run P w = .ok v w := by
 unfold results
 rw [hf]
 have ht' : tmps[a]?.getD undef = .pointer (some ⟨b, 0, none⟩) := by simpa using ht
 simp [ht', asAddr, hl]
theorem results_cell2 {P : Program} {fn : Func} {tmps : Array Value} {w : World} {a t b c : Nat} {v x : Value} (hf : fn.results = #[.cell a t, .tmp c]) (ht : tmps.getD a undef = .pointer (some ⟨b, 0, none⟩)) (hx : tmps.getD c undef = x) (hl : (loadVar t ⟨b, 0, none⟩).run P w = .ok v w) :
 (results fn tmps).run P w = .ok (.tuple #[v, x]) w := by
 subst hx
 unfold results
 rw [hf]
 have ht' : tmps[a]?.getD undef = .pointer (some ⟨b, 0, none⟩) := by simpa using ht
 simp [ht', asAddr, hl]
theorem load_pos {p : Pos} {w : World} {b : Nat} {t : TypeId} {fr : Nat × Nat} (hb : blk w b = some (.cells (posCells p) t fr)) : (loadVar 30 ⟨b, 0, none⟩).run Tryz.prog w = .ok (.agg (posCells p)) w :=
 loadVar_row (n := 133) Tryz.underlying30 rfl (by kernel_rfl) hb (posCells_size p)
structure Fr (F : Nat → Prop) (w w' : World) : Prop where
 os : w'.os = w.os
 tape : w'.tape = w.tape
 output : w'.output = w.output
 size : w.heap.size ≤ w'.heap.size
 keep : ∀ k, k < w.heap.size → ¬ F k → blk w' k = blk w k
theorem Fr.refl (F : Nat → Prop) (w : World) : Fr F w w := ⟨rfl, rfl, rfl, Nat.le_refl _, fun _ _ _ => rfl⟩
theorem Fr.mono {F G : Nat → Prop} {w w' : World} (h : Fr F w w') (hF : ∀ k, k < w.heap.size → F k → G k) : Fr G w w' := ⟨h.os, h.tape, h.output, h.size, fun k hk hn => h.keep k hk fun hf => hn (hF k hk hf)⟩
theorem Fr.trans {F G : Nat → Prop} {a b c : World} (h : Fr F a b) (k : Fr G b c) (hG : ∀ i, i < a.heap.size → G i → F i) : Fr F a c :=
 ⟨k.os.trans h.os, k.tape.trans h.tape, k.output.trans h.output, Nat.le_trans h.size k.size, fun i hi hn => (k.keep i (Nat.lt_of_lt_of_le hi h.size) fun hg => hn (hG i hi hg)).trans (h.keep i hi hn)⟩
theorem Fr.ext {F : Nat → Prop} {a b : World} (h : Ext a b) : Fr F a b := ⟨h.os, h.tape, h.output, h.le, fun k hk _ => h.blk k hk⟩
theorem Fr.grown {F : Nat → Prop} {a b : World} {r : Option Nat} (h : a.grownBy b r) (hr : ∀ k, r = some k → F k) : Fr F a b := ⟨h.os, h.tape, h.output, h.size, fun k hk hn => h.block k hk fun e => hn (hr k e.symm)⟩
theorem Fr.chg {F : Nat → Prop} {a c : World} {b : Nat} (h : Chg b a c) (hr : F b) : Fr F a c := ⟨h.os, h.tape, h.output, h.size, fun k hk hn => h.blk k hk fun e => hn (e ▸ hr)⟩
theorem Fr.set {F : Nat → Prop} {a w : World} (h : Fr F a w) {b i : Nat} (hb : b < a.heap.size → F b) (v : Value) : Fr F a (w.setCell ⟨b, i, none⟩ v) :=
 ⟨h.os, h.tape, h.output, by rw [size_set]; exact h.size, fun k hk hn => by
  have hne : k ≠ b := fun e => hn (by subst e; exact hb hk)
  exact (blk_setCell_past _ _ _ _ hne).trans (h.keep k hk hn)⟩
theorem Fr.setRow {F : Nat → Prop} {a w : World} (h : Fr F a w) {b : Nat} (hb : b < a.heap.size → F b) (cs : Array Value) : Fr F a (w.setRow b cs) :=
 ⟨by simpa using h.os, by simpa using h.tape, by simpa using h.output, by simpa using h.size, fun k hk hn => by
  have hne : k ≠ b := fun e => hn (by subst e; exact hb hk)
  exact (setRow_blk_past hne).trans (h.keep k hk hn)⟩
theorem Fr.exts {F : Nat → Prop} {a b c : World} (h : Fr F a b) (hx : Ext b c) : Fr F a c := h.trans (Fr.ext (F := F) hx) fun _ _ h => h
theorem Fr.toExt {F : Nat → Prop} {a w W : World} (h : Fr F w W) (hx : Ext a w) (hF : ∀ k, F k → a.heap.size ≤ k) : Ext a W :=
 ⟨h.os.trans hx.os, h.tape.trans hx.tape, h.output.trans hx.output, Nat.le_trans hx.le h.size, fun k hk => (h.keep k (Nat.lt_of_lt_of_le hk hx.le) fun hf => by have := hF k hf; omega).trans (hx.blk k hk)⟩
theorem held_row {P : Program} {id : Nat} {ops : Array Oper} {Q : Exit → Act → World → Prop} {a : Act} {w : World} {S : World → Prop} (hm : P.follows .mixedOrders = true) (hS : S w.drew)
 (h : ∀ W, S W → wpAnyH P .any ops Q S ops.size (Array.replicate ops.size false) a W) : (Code.region id ops true).wp P Q a w := wp_region_held_drew hm hS (h _)
theorem held_ini {P : Program} {id : Nat} {ops : Array Oper} {Q : Exit → Act → World → Prop} {a : Act} {w : World} {S : World → Prop} (I : World → Prop) (hm : P.follows .mixedOrders = true) (hS : S w.drew) (hI : I w.drew)
 (h : ∀ W, S W → I W → wpAnyH P .any ops Q S ops.size (Array.replicate ops.size false) a W) : (Code.region id ops true).wp P Q a w := wp_region_held_drew hm hS (fun h' => h _ h' hI)
theorem split_ini {P : Program} {id : Nat} {Q : Exit → Act → World → Prop} {a : Act} {w : World} {l : List Oper} (n : Nat) (S I : World → Prop) (hm : P.follows .mixedOrders = true) (hB : splitB l n = true) (hS : S w.drew) (hI : I w.drew)
 (h : ∀ W, S W → I W → wpAnyH P .any (l.take n).toArray (splitQ P l.toArray (l.drop n) Q) S n (Array.replicate n false) a W) : (Code.region id l.toArray true).wp P Q a w := wp_region_split n S hm hB hS (fun h' => h _ h' hI)
theorem new_blk (W : World) (o : Obj) : ∃ n W', W.heap.size = n ∧ W.alloc o = W' ∧ blk W' n = some o ∧ Ext W W' := ⟨_, _, rfl, rfl, blk_alloc_at _ _ _ rfl, Ext.alloc (Ext.refl _) _⟩
end Go.Proofs.YtdmgimfgoajmjaaGreatDoor
