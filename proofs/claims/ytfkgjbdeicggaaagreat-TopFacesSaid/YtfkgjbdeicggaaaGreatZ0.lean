/-
  Two shorthands: what the kernel sees, and what arithmetic gives.
-/
import Derived.KernelRfl
namespace Go.Proofs
theorem K9{p:Prop}(h:p:=by kernel_rfl):p:=h
theorem O9{p:Prop}(h:p:=by omega):p:=h
