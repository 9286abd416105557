/- The kinds of the arguments of this group's laws: what is known of them, and how they are read. -/
import Derived.Test.YtekcpcipbccodaaPOx0
import Derived.Test.YtekcpcipbccodaaOpen
import Derived.KernelRfl
namespace Go.Proofs.Ytekcpcipbccodaa.PO
open Go.RowKit Go.Proofs.Ytekcpcipbccodaa Go.Proofs.YtekcpcipbccodaaW.PrintWords Go.Proofs.YtekcpcipbccodaaW.PrintLast Go.Proofs.YtekcpcipbccodaaW.PrintMore Go.Proofs.Ytekcpcipbccodaa.Opn
set_option linter.unusedVariables false

def wfS36 (y : S36) : Prop := y.f0.size ≤ 140737488351232 ∧ (Lit.int .i64 y.f1).wf = true
def bkS36 (y : S36) : Nat := ((y.f0.size + 1) + (1)) + 1

theorem o3 : Opens Try.prog 3 (Kd.int .i64) (fun y => (Lit.int .i64 y).wf = true) (fun y => 1) := int Try.underlying3 (by kernel_rfl)
theorem o32 : Opens Try.prog 32 (Kd.slice 3 (Kd.int .i64)) (fun y => (y.length * 8 ≤ 140737488351232 ∧ ∀ x ∈ y, (Lit.int .i64 x).wf = true)) (fun y => ((y.map (fun _ => 1)).sum + 1)) := slice (B := 8) Try.underlying32 (by kernel_rfl) (by kernel_rfl) o3
theorem o9 : Opens Try.prog 9 Kd.string (fun y => y.size ≤ 140737488351232) (fun y => (y.size + 1)) := string Try.underlying9 (by kernel_rfl)
theorem o36 : Opens Try.prog 36 k36 wfS36 bkS36 := struct (fun x : S36 => (x.f0, x.f1)) (fun y => (⟨y.1, y.2⟩ : S36)) (fun _ => rfl) Try.underlying36 (by kernel_rfl) (fcons rfl o9 rfl (fone rfl o3))
theorem o60 : Opens Try.prog 60 (Kd.slice 36 k36) (fun y => (y.length * 24 ≤ 140737488351232 ∧ ∀ x ∈ y, wfS36 x)) (fun y => ((y.map (fun x => bkS36 x)).sum + 1)) := slice (B := 24) Try.underlying60 (by kernel_rfl) (by kernel_rfl) o36

end Go.Proofs.Ytekcpcipbccodaa.PO
