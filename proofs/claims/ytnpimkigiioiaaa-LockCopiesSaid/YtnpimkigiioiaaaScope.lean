/-
  A scope in which a run jumps forward to one label, at most once. For whatever program.
-/
import Derived.WalkKit
namespace Go.Proofs.Ytnpimkigiioiaaa

/-- As Q; by a goto to label l: J; by any other goto: no way out. -/
def fwd (l : Nat) (J : Act → World → Prop) (Q : Exit → Act → World → Prop) : Exit → Act → World → Prop
  | .goto l', a, w => l' = l ∧ J a w
  | e, a, w => Q e a w

section
variable {P : Program} {Q : Exit → Act → World → Prop} {J : Act → World → Prop} {l : Nat} {a : Act} {w : World}
@[go_sem] theorem fwd_normal : fwd l J Q .normal a w = Q .normal a w := rfl
@[go_sem] theorem fwd_exit (id : Nat) : fwd l J Q (.exit id) a w = Q (.exit id) a w := rfl
@[go_sem] theorem fwd_ret : fwd l J Q .ret a w = Q .ret a w := rfl
@[go_sem] theorem fwd_panic (ch : List PanicEntry) : fwd l J Q (.panic ch) a w = Q (.panic ch) a w := rfl
theorem fwd_goto (h : J a w) : fwd l J Q (.goto l) a w := ⟨rfl, h⟩

theorem fwd_retI (h : Q .ret a w) : fwd l J Q .ret a w := h
theorem noGoto_retI (h : Q .ret a w) : Exit.noGoto Q .ret a w := h

theorem wp_scope_fwd {c rest : Code} (l : Nat) (hf : findLabel c l = some rest)
    (h : c.wp P (fwd l (fun a' w' => rest.wp P (Exit.noGoto Q) a' w') Q) a w) : (Code.scope c).wp P Q a w := by
  refine wp_scope_jumps l (fun a' w' => rest.wp P (Exit.noGoto Q) a' w') (fun _ _ => 0) hf (Code.wp_mono ?_ h) (fun a' w' hJ => Code.wp_mono ?_ hJ)
  · rintro e a w hq
    cases e <;> exact hq
  · rintro e a w hq
    cases e with
    | goto l' => exact hq.elim
    | _ => exact hq
end
end Go.Proofs.Ytnpimkigiioiaaa
