/- Fix's known example, reckoned once; the loop of the work list; what the laws' ends have in common. -/
import Derived.Test.YtaaedipojhnjjaaGreatKj1
import Derived.KernelRfl
import Derived.WalkKit
import Derived.ChangeArms
set_option linter.unusedVariables false
set_option linter.unusedSectionVars false
set_option linter.unusedSimpArgs false
set_option maxRecDepth 100000
namespace Go.Proofs.YtaaedipojhnjjaaGreat
open Go Go.Sh Go.Va
variable [Vl]
theorem kn : runs tab 13 1000 1000 5 [] .nil = (FV.bool true = FV.bool true) := by kernel_rfl
theorem kn_run : Runs tab 13 1000 1000 5 [] := ⟨⟨.nil, by rw [kn]⟩⟩
noncomputable def tabt : Tr FFn := tab.put 5 .t
theorem tabt_all : TabOk Tryz.prog tabt := TabOk.put (kok_t tab_ok kn_run Tryz.call5) tab_all
end Go.Proofs.YtaaedipojhnjjaaGreat
namespace Go.Proofs.YtaaedipojhnjjaaGreat
open Go Go.Sh Go.Va
variable [Vl]
def pl27 : List (Nat × RP) := nf [0, 1, 3, 4, 6, 7, 8, 9, 10]
theorem lp27 : LpOk Tryz.prog 27 30 m27 2 kb27 := lp_of (pls := pl27) Tryz.func27 (by kernel_rfl) (by kernel_rfl)
theorem jl27 (L : LS) (h : LsI Tryz.prog 27 L) : KOk Tryz.prog 27 (.l [L] k27) :=
  .l _ pl27 1 m27 _ [L] Tryz.func27 Tryz.call27 (by kernel_rfl) fun c hc y hy S hS hl G => by cases List.mem_singleton.1 hS; exact h _ Tryz.func27 c hc y hy hl G
def pl28 : List (Nat × RP) := ([(11, ⟨24, [(0, 0), (0, 1), (0, 2), (0, 3), (0, 4), (0, 5), (0, 6), (0, 7), (0, 8), (0, 9), (0, 10), (0, 11), (0, 12), (0, 13), (0, 14), (0, 15), (0, 16), (0, 17), (0, 18), (2, 19), (0, 20), (0, 21), (0, 22), (0, 23)]⟩), (19, ⟨8, [(0, 0), (0, 1), (0, 2), (0, 3), (0, 4), (0, 5), (2, 6), (0, 7)]⟩)] ++ nf [0, 1, 3, 5, 6, 7, 10, 12, 14, 15, 16, 17, 20, 21])
theorem lp28 : LpOk Tryz.prog 28 98 m28 2 kb28 := lp_of (pls := pl28) Tryz.func28 (by kernel_rfl) (by kernel_rfl)
theorem jl28 (L : LS) (h : LsI Tryz.prog 28 L) : KOk Tryz.prog 28 (.l [L] k28) :=
  .l _ pl28 1 m28 _ [L] Tryz.func28 Tryz.call28 (by kernel_rfl) fun c hc y hy S hS hl G => by cases List.mem_singleton.1 hS; exact h _ Tryz.func28 c hc y hy hl G
end Go.Proofs.YtaaedipojhnjjaaGreat
namespace Go.Proofs.YtaaedipojhnjjaaGreat.Fw
open Go Go.Sh Go.Va Go.ChangeShapes Go.WideShapes Go.ChangeAt Go.RowKit
theorem own : ownKnob Tryz.prog.godebug = none := by kernel_rfl
theorem laidOut : laidOutB Tryz.prog = true := by kernel_rfl
theorem rowed : mapsRowed Tryz.prog = true := by kernel_rfl
theorem full : ∀ t e, t < Tryz.prog.types.size → Tryz.prog.underlying t = some (.slice e) → 0 < Tryz.prog.cellsOf e := slices_full_of Tryz.prog (by kernel_rfl)
theorem int_in {H : Type} {enc : TypeId × Value → H} {W : World} {base : Nat} {sp : Nat → Bool} {held : Bool} {t : TypeId} {k : IntKind} {v : Value} {d : DataW H} {ps : List MemPlace} (hd : DataW.Trod enc Tryz.prog W base sp held t v d ps)
    (ht : Tryz.prog.underlying t = some (.int k)) (hv : ∃ n, v = .int k n) : ∃ n, v = .int k n ∧ (Lit.int k n).wf = true := by
  obtain ⟨fuel, hf⟩ := hd
  obtain ⟨n, hc, _, hw⟩ := DataW.trod_int ht hf
  obtain ⟨m, rfl⟩ := hv
  simp only [Value.cells, Array.toList, List.cons.injEq, Value.int.injEq, and_true, true_and] at hc
  exact ⟨m, rfl, by rw [hc]; exact hw⟩
end Go.Proofs.YtaaedipojhnjjaaGreat.Fw
