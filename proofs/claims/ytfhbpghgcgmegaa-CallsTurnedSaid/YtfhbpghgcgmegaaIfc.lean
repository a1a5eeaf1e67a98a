/- Interface values, methods, assertions, struct values: the rules, over any program. -/
import Derived.Test.YtfhbpghgcgmegaaCol
set_option linter.unusedVariables false
namespace Go.Sh
section ifc
variable {P : Program}

/-- A type's method, of its own (not through a field). -/
class Mth (P : Program) (t : TypeId) (name : String) (f : outParam FuncId) (ptr : outParam Bool) : Prop where
  ok : ∃ i m, P.info? t = some i ∧ i.methods.find? (·.name == name) = some m ∧ m.path = #[] ∧ m.func = some (f, ptr)

theorem run_method_own {t : TypeId} {name : String} {f : FuncId} {ptr : Bool} [u : Mth P t name f ptr] {v x : Value} {w : World} {fuel : Nat}
    (hx : ∀ s, (receiverAt t (.val v) ptr (some s)).run P w = .ok x w) : (method (fuel + 1) t v name).run P w = .ok (f, x) w := by
  obtain ⟨i, m, h1, h2, h3, h4⟩ := u.ok
  simp [method, typeInfo, h1, h2, h3, h4, follow, hx]

theorem run_callMethod_own {t : TypeId} {name : String} {f : FuncId} {ptr : Bool} [Mth P t name f ptr] [Fnc P f] {v x : Value} {args : Array Value} {w : World}
    (hx : ∀ s, (receiverAt t (.val v) ptr (some s)).run P w = .ok x w) : (callMethod (.iface t v) name args).run P w = .ok (.enter f (#[x] ++ args)) w := by
  obtain ⟨k, hk⟩ : ∃ k, P.types.size + Made.depth = k + 1 := ⟨P.types.size + Made.depth - 1, by
    have : 0 < Made.depth := by decide
    omega⟩
  simp only [callMethod]
  rw [Sem.run_bind]
  simp only [run_program, Result.andThen_ok]
  rw [hk, Sem.run_bind, run_method_own hx, Result.andThen_ok]
  exact Fnc.run _ _

theorem invokeSem_eq (r : Value) (name : String) (l : Array Value) : invokeSem r name l = callMethod r name l := by
  have h0 : (#[r] ++ l)[0]? = some r := by
    rw [Array.getElem?_append_left (by simp)]; rfl
  have h1 : (#[r] ++ l).extract 1 (#[r] ++ l).size = l := by
    apply Array.ext'
    simp
  simp only [invokeSem, invoke, h0, h1]
theorem run_wrapNil {t : TypeId} {a : Addr} {s : String} {w : World} : (Builtin.ssaWrapNilChk_ #[t] t #[.pointer (some a), strVal "", strVal s]).run P w = .ok (.pointer (some a)) w := rfl
/-- A method of the pointer. -/
theorem oInvokeP {t e : TypeId} {name : String} {f : FuncId} [Mth P t name f true] [Und P t (.pointer e)] [Fnc P f] {p : Value} {l : Array Value} {h : Heap} {K : Value → Heap → Prop}
    (hc : HC P f (#[p] ++ l) h K) : oInvoke P (.iface t p) name l h K := fun w hw => by
  have : (invokeSem (.iface t p) name l).run P w = .ok (.enter f (#[p] ++ l)) w := by
    have := run_callMethod_own (P := P) (t := t) (name := name) (f := f) (ptr := true) (v := p) (x := p) (args := l) (w := w) (fun s => by simp [receiverAt, Und.run, Place.get])
    rw [invokeSem_eq]; exact this
  rw [this]
  exact ⟨.refl _, by rw [hw]; exact hc⟩
/-- A method of the value behind the pointer. -/
theorem oInvokeV {t e : TypeId} {name : String} {f : FuncId} [Mth P t name f false] [Und P t (.pointer e)] [IsA P e false] [Fnc P f] {p x : Value} {l : Array Value} {h : Heap} {K : Value → Heap → Prop}
    (hr : Rd h p [x]) (hc : HC P f (#[x] ++ l) h K) : oInvoke P (.iface t p) name l h K := fun w hw => by
  obtain ⟨a, ha, hx⟩ := hr.at (j := 0) rfl
  rw [padd_zero] at ha
  subst ha
  have : (invokeSem (.iface t (.pointer (some a))) name l).run P w = .ok (.enter f (#[x] ++ l)) w := by
    have := run_callMethod_own (P := P) (t := t) (name := name) (f := f) (ptr := false) (v := .pointer (some a)) (x := x) (args := l) (w := w) (fun s => by
      have h1 : (loadVar e a).run P w = .ok x w := run_loadVar1 (by rw [hw]; exact hx)
      simp [receiverAt, Und.run, Place.get, run_wrapNil, asAddr, h1])
    rw [invokeSem_eq]; exact this
  rw [this]
  exact ⟨.refl _, by rw [hw]; exact hc⟩

theorem oIface_of {t : TypeId} {d : TypeDesc} [Und P t d] {x : Value} {K : Value → Prop} (hd : ∀ ms, d ≠ .interface ms) (hk : K (.iface t x)) : oIface P t x K := by
  refine Sp.of (v := .iface t x) (fun w => nv_run ?_) hk
  simp only [Instr.makeInterface]
  rw [Sem.run_bind, Und.run, Result.andThen_ok]
  cases hdd : d with
  | interface ms => exact absurd hdd (hd ms)
  | _ => rfl
theorem oAssert_yes {xt t : TypeId} {d : TypeDesc} [Und P t d] {x : Value} {K : Value → Prop} (hd : ∀ ms, d ≠ .interface ms) (hk : K (.tuple #[x, .bool true])) : oAssert P (.iface t x) xt t true K := by
  refine Sp.of (fun w => nv_run ?_) hk
  simp only [Instr.typeAssert]
  rw [Sem.run_bind, Und.run, Result.andThen_ok]
  cases hdd : d with
  | interface ms => exact absurd hdd (hd ms)
  | _ => simp
/-- A field's place in a struct. -/
class Fld (P : Program) (t : TypeId) (i : Nat) (off : outParam Nat) : Prop where
  ok : ∃ fs f inf, P.underlying t = some (.struct fs) ∧ fs[i]? = some f ∧ f.offset = off ∧ P.info? f.type = some inf ∧ 0 < inf.size
theorem run_fieldAt_own {t : TypeId} {i off : Nat} [u : Fld P t i off] {a : Addr} {w : World} : (Instr.fieldAt t (.pointer (some a)) i).run P w = .ok (.pointer (some (a.add off))) w := by
  obtain ⟨fs, f, inf, h1, h2, h3, h4, h5⟩ := u.ok
  have hs : (sizeOf f.type).run P w = .ok inf.size w := by simp [sizeOf, typeInfo, h4]
  simp only [Instr.fieldAt]
  rw [Sem.run_bind, run_underlying h1, Result.andThen_ok]
  simp only [h2, Instr.sureAddr, pure_bind, fieldPlace]
  simp [hs, h3, show inf.size ≠ 0 from by omega]
/-- A field's address. -/
theorem oFieldAddr_own {t : TypeId} {i off : Nat} [Fld P t i off] {p : Value} {n : Nat} {D : Heap → Prop} {K : Value → Prop} (hp : ∃ a, p = .pointer (some a)) (hk : K (padd p (n + off))) : oFieldAddr P t (padd p n) i D K := by
  obtain ⟨a, rfl⟩ := hp
  refine ⟨.pointer (some ((a.add n).add off)), fun w _ => nv_run run_fieldAt_own, ?_⟩
  have : Value.pointer (some ((a.add n).add off)) = padd (.pointer (some a)) (n + off) := by rw [← padd_padd]; rfl
  rw [this]; exact hk
theorem oNil_padd {p : Value} {n : Nat} {K : Value → Prop} (hp : ∃ a, p = .pointer (some a)) : oNil P (padd p n) K ↔ K (padd p n) := by
  obtain ⟨a, rfl⟩ := hp
  exact oNil_ptr
/-- A struct is built. -/
theorem oBuild_own {t : TypeId} {parts : Array (Nat × Value)} {cells : Array Value} {K : Value → Prop} (h : P.built t parts.toList = some cells) (hk : K (.agg cells)) : oBuild P t parts K :=
  Sp.of (fun w => nv_run (run_build w t parts cells h)) hk
end ifc
end Go.Sh
