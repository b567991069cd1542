/- Regions that leave their order open, of reads and of calls that only lay new blocks: walked once, in the text's order. -/
import Derived.Test.YtdmgimfgoajmjaaGreatDoorC01
import Derived.Lib.QuietBelow
set_option linter.unusedVariables false
set_option linter.unusedSimpArgs false
namespace Go.Proofs.YtdmgimfgoajmjaaGreatDoor
open Go.RowKit Go.Sort
def grown (w : World) (p : Regrown) : World := grow (redrawn w p.d) p.os
theorem ext_grown (w : World) (p : Regrown) : Ext w (grown w p) := below_regrown w p.d p.os
@[go_sem] theorem cell_grown (w : World) (p : Regrown) (b o : Nat) (h : b < w.heap.size) : (grown w p).cell? ⟨b, o, none⟩ = w.cell? ⟨b, o, none⟩ := (ext_grown w p).cell b o h
@[go_sem] theorem froz_grown (w : World) (p : Regrown) (b o : Nat) (h : b < w.heap.size) : (grown w p).frozen? ⟨b, o, none⟩ = w.frozen? ⟨b, o, none⟩ := (ext_grown w p).froz b o h
@[go_sem] theorem blk_grown (w : World) (p : Regrown) (b : Nat) (h : b < w.heap.size) : blk (grown w p) b = blk w b := (ext_grown w p).blk b h
theorem wp_quiet {P : Program} {id : Nat} {Q : Exit → Act → World → Prop} {a : Act} {w : World} {l : List Oper} (hm : P.follows .mixedOrders = true) (hB : Region.lexB .any l.toArray = true)
    (h : wpQuiet P l.toArray (fun w' => ∃ p : Regrown, w' = grown w p) (fun a' => ∀ w', Ext w w' → Q .normal a' w') l a) : (Code.region id l.toArray true).wp P Q a w := by
  refine wp_region_quiet (C := fun w' => ∃ p : Regrown, w' = grown w p) hm hB ⟨⟨w.drawn + 1, #[]⟩, by unfold grown; rw [grow_empty]; rfl⟩ ?_
  have e : (fun a' => ∀ w', (∃ p : Regrown, w' = grown w p) → Q .normal a' w') = (fun a' => ∀ w', Ext w w' → Q .normal a' w') := by
    funext a'
    apply propext
    constructor
    · intro h w' hw'; exact h w' (regrown_of_below hw')
    · rintro h w' ⟨p, rfl⟩; exact h _ (ext_grown w p)
  rw [e]
  simpa using h
theorem Calls.reg {P : Program} {f : FuncId} {args : Array Value} {w : World} {p : Regrown} {v : Value}
    (h : Calls P f args (grown w p) (Ret v (grown w p))) : Calls P f args (grown w p) fun e w'' => e = .returned v ∧ ∃ q : Regrown, w'' = grown w q :=
  h.mono fun _ _ ⟨he, hx⟩ => ⟨he, regrown_of_below ((ext_grown w p).trans hx)⟩
end Go.Proofs.YtdmgimfgoajmjaaGreatDoor
