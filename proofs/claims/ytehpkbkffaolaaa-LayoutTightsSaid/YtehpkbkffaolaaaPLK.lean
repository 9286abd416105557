/- The kinds of the arguments of this group's laws: what is known of them, and how they are read. -/
import Derived.Test.YtehpkbkffaolaaaPLx0
import Derived.Test.YtehpkbkffaolaaaOpen
import Derived.KernelRfl
namespace Go.Proofs.Ytehpkbkffaolaaa.PL
open Go.RowKit Go.Proofs.Ytehpkbkffaolaaa Go.Proofs.YtehpkbkffaolaaaW.PrintWords Go.Proofs.YtehpkbkffaolaaaW.PrintLast Go.Proofs.YtehpkbkffaolaaaW.PrintMore Go.Proofs.Ytehpkbkffaolaaa.Opn
set_option linter.unusedVariables false

def wfS26 (y : S26) : Prop := (Lit.int .i64 y.f0).wf = true ∧ (Lit.int .i64 y.f1).wf = true ∧ (Lit.int .i64 y.f2).wf = true ∧ (Lit.int .i64 y.f3).wf = true ∧ (Lit.int .i64 y.f4).wf = true ∧ (Lit.int .u32 y.f5).wf = true ∧ (Lit.int .i64 y.f6).wf = true ∧ (Lit.int .i64 y.f7).wf = true ∧ y.f8.size ≤ 140737488351232 ∧ y.f9.size ≤ 140737488351232
def bkS26 (y : S26) : Nat := (1 + (1 + (1 + (1 + (1 + (1 + (1 + (1 + ((y.f8.size + 1) + ((y.f9.size + 1))))))))))) + 1
def wfS28 (y : S28) : Prop := wfS26 y.f0 ∧ (Lit.int .i64 y.f1).wf = true ∧ (Lit.int .i64 y.f2).wf = true ∧ (Lit.int .i64 y.f3).wf = true ∧ (Lit.int .i64 y.f4).wf = true ∧ (Lit.int .i64 y.f5).wf = true ∧ y.f6.size ≤ 140737488351232
def bkS28 (y : S28) : Nat := (bkS26 y.f0 + (1 + (1 + (1 + (1 + (1 + ((y.f6.size + 1)))))))) + 1
def wfS30 (y : S30) : Prop := wfS28 y.f0 ∧ y.f1.size ≤ 140737488351232 ∧ (Lit.int .i64 y.f2).wf = true ∧ (Lit.int .i64 y.f3).wf = true ∧ (Lit.int .i64 y.f4).wf = true
def bkS30 (y : S30) : Nat := (bkS28 y.f0 + ((y.f1.size + 1) + (1 + (1 + (1))))) + 1

theorem o9 : Opens Try.prog 9 Kd.string (fun y => y.size ≤ 140737488351232) (fun y => (y.size + 1)) := string Try.underlying9 (by kernel_rfl)
theorem o3 : Opens Try.prog 3 (Kd.int .i64) (fun y => (Lit.int .i64 y).wf = true) (fun y => 1) := int Try.underlying3 (by kernel_rfl)
theorem o24 : Opens Try.prog 24 (Kd.int .u32) (fun y => (Lit.int .u32 y).wf = true) (fun y => 1) := int Try.underlying24 (by kernel_rfl)
theorem o26 : Opens Try.prog 26 k26 wfS26 bkS26 := struct (fun x : S26 => (x.f0, x.f1, x.f2, x.f3, x.f4, x.f5, x.f6, x.f7, x.f8, x.f9)) (fun y => (⟨y.1, y.2.1, y.2.2.1, y.2.2.2.1, y.2.2.2.2.1, y.2.2.2.2.2.1, y.2.2.2.2.2.2.1, y.2.2.2.2.2.2.2.1, y.2.2.2.2.2.2.2.2.1, y.2.2.2.2.2.2.2.2.2⟩ : S26)) (fun _ => rfl) Try.underlying26 (by kernel_rfl) (fcons rfl o3 rfl (fcons rfl o3 rfl (fcons rfl o3 rfl (fcons rfl o3 rfl (fcons rfl o3 rfl (fcons rfl o24 rfl (fcons rfl o3 rfl (fcons rfl o3 rfl (fcons rfl o9 rfl (fone rfl o9))))))))))
theorem o28 : Opens Try.prog 28 k28 wfS28 bkS28 := struct (fun x : S28 => (x.f0, x.f1, x.f2, x.f3, x.f4, x.f5, x.f6)) (fun y => (⟨y.1, y.2.1, y.2.2.1, y.2.2.2.1, y.2.2.2.2.1, y.2.2.2.2.2.1, y.2.2.2.2.2.2⟩ : S28)) (fun _ => rfl) Try.underlying28 (by kernel_rfl) (fcons rfl o26 rfl (fcons rfl o3 rfl (fcons rfl o3 rfl (fcons rfl o3 rfl (fcons rfl o3 rfl (fcons rfl o3 rfl (fone rfl o9)))))))
theorem o30 : Opens Try.prog 30 k30 wfS30 bkS30 := struct (fun x : S30 => (x.f0, x.f1, x.f2, x.f3, x.f4)) (fun y => (⟨y.1, y.2.1, y.2.2.1, y.2.2.2.1, y.2.2.2.2⟩ : S30)) (fun _ => rfl) Try.underlying30 (by kernel_rfl) (fcons rfl o28 rfl (fcons rfl o9 rfl (fcons rfl o3 rfl (fcons rfl o3 rfl (fone rfl o3)))))
theorem o22 : Opens Try.prog 22 (Kd.slice 30 k30) (fun y => (y.length * 192 ≤ 140737488351232 ∧ ∀ x ∈ y, wfS30 x)) (fun y => ((y.map (fun x => bkS30 x)).sum + 1)) := slice (B := 192) Try.underlying22 (by kernel_rfl) (by kernel_rfl) o30

end Go.Proofs.Ytehpkbkffaolaaa.PL
