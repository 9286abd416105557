/- The kinds of the arguments of this group's laws: what is known of them, and how they are read. -/
import Derived.Test.YtkmnhlhpmfkloaaPDx0
import Derived.Test.YtkmnhlhpmfkloaaFU0
import Derived.KernelRfl
namespace Go.Proofs.Ytkmnhlhpmfkloaa.PD
open Go.RowKit Go.Proofs.Ytkmnhlhpmfkloaa Go.Proofs.YtkmnhlhpmfkloaaW.PrintWords Go.Proofs.YtkmnhlhpmfkloaaW.PrintLast Go.Proofs.YtkmnhlhpmfkloaaW.PrintMore Go.Proofs.Ytkmnhlhpmfkloaa.Opn
set_option linter.unusedVariables false

def wfS24 (y : S24) : Prop := (Lit.int .i64 y.f0).wf = true ∧ (Lit.int .i64 y.f1).wf = true ∧ (Lit.int .i64 y.f2).wf = true ∧ (Lit.int .i64 y.f3).wf = true ∧ (Lit.int .i64 y.f4).wf = true ∧ (Lit.int .u32 y.f5).wf = true ∧ (Lit.int .i64 y.f6).wf = true ∧ (Lit.int .i64 y.f7).wf = true ∧ y.f8.size ≤ 140737488351232 ∧ y.f9.size ≤ 140737488351232
def bkS24 (y : S24) : Nat := (1 + (1 + (1 + (1 + (1 + (1 + (1 + (1 + ((y.f8.size + 1) + ((y.f9.size + 1))))))))))) + 1

theorem o3 : Opens Try.prog 3 (Kd.int .i64) (fun y => (Lit.int .i64 y).wf = true) (fun y => 1) := int Try.underlying3 (by kernel_rfl)
theorem o4 : Opens Try.prog 4 Kd.bool (fun y => True) (fun y => 1) := bool Try.underlying4 (by kernel_rfl)
theorem o22 : Opens Try.prog 22 (Kd.int .u32) (fun y => (Lit.int .u32 y).wf = true) (fun y => 1) := int Try.underlying22 (by kernel_rfl)
theorem o9 : Opens Try.prog 9 Kd.string (fun y => y.size ≤ 140737488351232) (fun y => (y.size + 1)) := string Try.underlying9 (by kernel_rfl)
theorem o24 : Opens Try.prog 24 k24 wfS24 bkS24 := struct (fun x : S24 => (x.f0, x.f1, x.f2, x.f3, x.f4, x.f5, x.f6, x.f7, x.f8, x.f9)) (fun y => (⟨y.1, y.2.1, y.2.2.1, y.2.2.2.1, y.2.2.2.2.1, y.2.2.2.2.2.1, y.2.2.2.2.2.2.1, y.2.2.2.2.2.2.2.1, y.2.2.2.2.2.2.2.2.1, y.2.2.2.2.2.2.2.2.2⟩ : S24)) (fun _ => rfl) Try.underlying24 (by kernel_rfl) (fcons rfl o3 rfl (fcons rfl o3 rfl (fcons rfl o3 rfl (fcons rfl o3 rfl (fcons rfl o3 rfl (fcons rfl o22 rfl (fcons rfl o3 rfl (fcons rfl o3 rfl (fcons rfl o9 rfl (fone rfl o9))))))))))
theorem o5 : Opens Try.prog 5 (Kd.int .u8) (fun y => (Lit.int .u8 y).wf = true) (fun y => 1) := int Try.underlying5 (by kernel_rfl)
theorem o25 : Opens Try.prog 25 (Kd.slice 5 (Kd.int .u8)) (fun y => (y.length * 1 ≤ 140737488351232 ∧ ∀ x ∈ y, (Lit.int .u8 x).wf = true)) (fun y => ((y.map (fun _ => 1)).sum + 1)) := slice (B := 1) Try.underlying25 (by kernel_rfl) (by kernel_rfl) o5

end Go.Proofs.Ytkmnhlhpmfkloaa.PD
