/- The table of types and of functions of this translation: no statement of the seat is proved here. No condition. -/
import Derived.Test.YtckjlakfnpapgaaDoorVc
import Derived.Test.YtckjlakfnpapgaaDoorChecked
import Derived.KernelRfl
set_option linter.all false
namespace Go.Proofs.YtckjlakfnpapgaaDoor
open Go.Vs Go.Proofs
/-- The types of this program, as a small table. -/
def Γt : List (Nat × TyI) := [
  (3, ⟨.int .i64, 1, 8, [.int .i64 0]⟩),
  (26, ⟨.struct [(0, 1, false)], 1, 24, [.slice none 0 0]⟩),
  (9, ⟨.string, 1, 16, [.string ByteArray.empty]⟩),
  (65, ⟨.int .u32, 1, 4, [.int .u32 0]⟩),
  (57, ⟨.int .u64, 1, 8, [.int .u64 0]⟩),
  (4, ⟨.bool, 1, 1, [.bool false]⟩),
  (5, ⟨.int .u8, 1, 1, [.int .u8 0]⟩),
  (22, ⟨.slice 9, 1, 24, [.slice none 0 0]⟩),
  (44, ⟨.slice 5, 1, 24, [.slice none 0 0]⟩),
  (46, ⟨.slice 3, 1, 24, [.slice none 0 0]⟩),
  (68, ⟨.int .u64, 1, 8, [.int .u64 0]⟩),
  (24, ⟨.struct [(0, 1, false)], 1, 24, [.slice none 0 0]⟩),
  (2, ⟨.int .i64, 1, 8, [.int .i64 0]⟩),
  (53, ⟨.slice 46, 1, 24, [.slice none 0 0]⟩),
  (48, ⟨.other, 1, 8, [.nilFunc]⟩)]
theorem ty3 : TyOk Tryd.prog 3 ⟨.int .i64, 1, 8, [.int .i64 0]⟩ := ⟨⟨Tryd.t3, _, _, by kernel_rfl, Tryd.underlying3, rfl, rfl, rfl, rfl, rfl⟩⟩
theorem ty26 : TyOk Tryd.prog 26 ⟨.struct [(0, 1, false)], 1, 24, [.slice none 0 0]⟩ := ⟨⟨Tryd.t26, _, _, by kernel_rfl, Tryd.underlying26, rfl, rfl, rfl, rfl, _, rfl, rfl, fun i o n g h => match i, o, n, g, h with
      | 0, o, n, g, h => by cases h; exact ⟨_, Tryd.t22, _, rfl, rfl, by kernel_rfl, rfl, Tryd.underlying22, rfl⟩
      | _ + 1, _, _, _, h => by simp at h⟩⟩
theorem ty9 : TyOk Tryd.prog 9 ⟨.string, 1, 16, [.string ByteArray.empty]⟩ := ⟨⟨Tryd.t9, _, _, by kernel_rfl, Tryd.underlying9, rfl, rfl, rfl, rfl, rfl⟩⟩
theorem ty65 : TyOk Tryd.prog 65 ⟨.int .u32, 1, 4, [.int .u32 0]⟩ := ⟨⟨Tryd.t65, _, _, by kernel_rfl, Tryd.underlying65, rfl, rfl, rfl, rfl, rfl⟩⟩
theorem ty57 : TyOk Tryd.prog 57 ⟨.int .u64, 1, 8, [.int .u64 0]⟩ := ⟨⟨Tryd.t57, _, _, by kernel_rfl, Tryd.underlying57, rfl, rfl, rfl, rfl, rfl⟩⟩
theorem ty4 : TyOk Tryd.prog 4 ⟨.bool, 1, 1, [.bool false]⟩ := ⟨⟨Tryd.t4, _, _, by kernel_rfl, Tryd.underlying4, rfl, rfl, rfl, rfl, rfl⟩⟩
theorem ty5 : TyOk Tryd.prog 5 ⟨.int .u8, 1, 1, [.int .u8 0]⟩ := ⟨⟨Tryd.t5, _, _, by kernel_rfl, Tryd.underlying5, rfl, rfl, rfl, rfl, rfl⟩⟩
theorem ty22 : TyOk Tryd.prog 22 ⟨.slice 9, 1, 24, [.slice none 0 0]⟩ := ⟨⟨Tryd.t22, _, _, by kernel_rfl, Tryd.underlying22, rfl, rfl, rfl, rfl, rfl⟩⟩
theorem ty44 : TyOk Tryd.prog 44 ⟨.slice 5, 1, 24, [.slice none 0 0]⟩ := ⟨⟨Tryd.t44, _, _, by kernel_rfl, Tryd.underlying44, rfl, rfl, rfl, rfl, rfl⟩⟩
theorem ty46 : TyOk Tryd.prog 46 ⟨.slice 3, 1, 24, [.slice none 0 0]⟩ := ⟨⟨Tryd.t46, _, _, by kernel_rfl, Tryd.underlying46, rfl, rfl, rfl, rfl, rfl⟩⟩
theorem ty68 : TyOk Tryd.prog 68 ⟨.int .u64, 1, 8, [.int .u64 0]⟩ := ⟨⟨Tryd.t68, _, _, by kernel_rfl, Tryd.underlying68, rfl, rfl, rfl, rfl, rfl⟩⟩
theorem ty24 : TyOk Tryd.prog 24 ⟨.struct [(0, 1, false)], 1, 24, [.slice none 0 0]⟩ := ⟨⟨Tryd.t24, _, _, by kernel_rfl, Tryd.underlying24, rfl, rfl, rfl, rfl, _, rfl, rfl, fun i o n g h => match i, o, n, g, h with
      | 0, o, n, g, h => by cases h; exact ⟨_, Tryd.t22, _, rfl, rfl, by kernel_rfl, rfl, Tryd.underlying22, rfl⟩
      | _ + 1, _, _, _, h => by simp at h⟩⟩
theorem ty2 : TyOk Tryd.prog 2 ⟨.int .i64, 1, 8, [.int .i64 0]⟩ := ⟨⟨Tryd.t2, _, _, by kernel_rfl, Tryd.underlying2, rfl, rfl, rfl, rfl, rfl⟩⟩
theorem ty53 : TyOk Tryd.prog 53 ⟨.slice 46, 1, 24, [.slice none 0 0]⟩ := ⟨⟨Tryd.t53, _, _, by kernel_rfl, Tryd.underlying53, rfl, rfl, rfl, rfl, rfl⟩⟩
theorem ty48 : TyOk Tryd.prog 48 ⟨.other, 1, 8, [.nilFunc]⟩ := ⟨⟨Tryd.t48, _, _, by kernel_rfl, Tryd.underlying48, rfl, rfl, rfl, rfl, rfl⟩⟩
theorem mixed : Tryd.prog.follows .mixedOrders = true := by kernel_rfl
theorem Γt_ok : ∀ x ∈ Γt, TyOk Tryd.prog x.1 x.2 := by
  intro x hx
  simp only [Γt, List.mem_cons, List.not_mem_nil, or_false] at hx
  rcases hx with rfl | rfl | rfl | rfl | rfl | rfl | rfl | rfl | rfl | rfl | rfl | rfl | rfl | rfl | rfl
  · exact ty3
  · exact ty26
  · exact ty9
  · exact ty65
  · exact ty57
  · exact ty4
  · exact ty5
  · exact ty22
  · exact ty44
  · exact ty46
  · exact ty68
  · exact ty24
  · exact ty2
  · exact ty53
  · exact ty48
def Γ : Env := { ty := Γt, io := [(10, [0]), (23, [0])], esc := [] }
theorem envOk : EnvOk Tryd.prog Γ := envOk_of Γt_ok
abbrev FO (f : Nat) (args outs : List Arg) (res : Arg) : Prop := FOk Tryd.prog f args outs res
abbrev FI (f : Nat) (fn : Func) : Prop := FnIs Tryd.prog f (fn.body.getD .skip) fn.results.toList fn.ntmps
end Go.Proofs.YtckjlakfnpapgaaDoor
