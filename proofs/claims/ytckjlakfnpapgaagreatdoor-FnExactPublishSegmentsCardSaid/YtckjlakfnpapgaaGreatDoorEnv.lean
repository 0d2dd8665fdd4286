/- The table of types and of functions of this translation: no statement of the seat is proved here. No condition. -/
import Derived.Test.YtckjlakfnpapgaaGreatDoorVc
import Derived.Test.YtckjlakfnpapgaaGreatDoorChecked
import Derived.KernelRfl
set_option linter.all false
namespace Go.Proofs.YtckjlakfnpapgaaGreatDoor
open Go.Vs Go.Proofs
/-- The types of this program, as a small table. -/
def Γt : List (Nat × TyI) := [
  (3, ⟨.int .i64, 1, 8, [.int .i64 0]⟩),
  (34, ⟨.struct [(0, 1, false)], 1, 24, [.slice none 0 0]⟩),
  (57, ⟨.struct [(0, 1, true), (1, 1, false), (2, 1, true), (3, 1, false), (4, 1, false)], 5, 88, [.slice none 0 0, .slice none 0 0, .slice none 0 0, .int .i64 0, .int .i64 0]⟩),
  (4, ⟨.bool, 1, 1, [.bool false]⟩),
  (26, ⟨.slice 5, 1, 24, [.slice none 0 0]⟩),
  (9, ⟨.string, 1, 16, [.string ByteArray.empty]⟩),
  (52, ⟨.struct [(0, 1, false), (1, 1, false), (2, 1, false)], 3, 40, [.int .i64 0, .int .i64 0, .slice none 0 0]⟩),
  (23, ⟨.slice 9, 1, 24, [.slice none 0 0]⟩),
  (112, ⟨.int .u32, 1, 4, [.int .u32 0]⟩),
  (5, ⟨.int .u8, 1, 1, [.int .u8 0]⟩),
  (50, ⟨.slice 3, 1, 24, [.slice none 0 0]⟩),
  (104, ⟨.int .u64, 1, 8, [.int .u64 0]⟩),
  (64, ⟨.struct [(0, 1, true), (1, 1, false)], 2, 32, [.slice none 0 0, .int .i64 0]⟩),
  (29, ⟨.slice 57, 1, 24, [.slice none 0 0]⟩),
  (25, ⟨.struct [(0, 1, false)], 1, 24, [.slice none 0 0]⟩),
  (32, ⟨.slice 64, 1, 24, [.slice none 0 0]⟩),
  (92, ⟨.int .u64, 1, 8, [.int .u64 0]⟩),
  (2, ⟨.int .i64, 1, 8, [.int .i64 0]⟩),
  (48, ⟨.struct [(0, 1, true), (1, 1, false)], 2, 32, [.slice none 0 0, .int .i64 0]⟩),
  (22, ⟨.slice 48, 1, 24, [.slice none 0 0]⟩),
  (98, ⟨.slice 50, 1, 24, [.slice none 0 0]⟩),
  (89, ⟨.other, 1, 8, [.nilFunc]⟩),
  (90, ⟨.other, 1, 8, [.nilFunc]⟩)]
theorem ty3 : TyOk Tryz.prog 3 ⟨.int .i64, 1, 8, [.int .i64 0]⟩ := ⟨⟨Tryz.t3, _, _, by kernel_rfl, Tryz.underlying3, rfl, rfl, rfl, rfl, rfl⟩⟩
theorem ty34 : TyOk Tryz.prog 34 ⟨.struct [(0, 1, false)], 1, 24, [.slice none 0 0]⟩ := ⟨⟨Tryz.t34, _, _, by kernel_rfl, Tryz.underlying34, rfl, rfl, rfl, rfl, _, rfl, rfl, fun i o n g h => match i, o, n, g, h with
      | 0, o, n, g, h => by cases h; exact ⟨_, Tryz.t23, _, rfl, rfl, by kernel_rfl, rfl, Tryz.underlying23, rfl⟩
      | _ + 1, _, _, _, h => by simp at h⟩⟩
theorem ty57 : TyOk Tryz.prog 57 ⟨.struct [(0, 1, true), (1, 1, false), (2, 1, true), (3, 1, false), (4, 1, false)], 5, 88, [.slice none 0 0, .slice none 0 0, .slice none 0 0, .int .i64 0, .int .i64 0]⟩ := ⟨⟨Tryz.t57, _, _, by kernel_rfl, Tryz.underlying57, rfl, rfl, rfl, rfl, _, rfl, rfl, fun i o n g h => match i, o, n, g, h with
      | 0, o, n, g, h => by cases h; exact ⟨_, Tryz.t34, _, rfl, rfl, by kernel_rfl, rfl, Tryz.underlying34, rfl⟩
      | 1, o, n, g, h => by cases h; exact ⟨_, Tryz.t26, _, rfl, rfl, by kernel_rfl, rfl, Tryz.underlying26, rfl⟩
      | 2, o, n, g, h => by cases h; exact ⟨_, Tryz.t34, _, rfl, rfl, by kernel_rfl, rfl, Tryz.underlying34, rfl⟩
      | 3, o, n, g, h => by cases h; exact ⟨_, Tryz.t3, _, rfl, rfl, by kernel_rfl, rfl, Tryz.underlying3, rfl⟩
      | 4, o, n, g, h => by cases h; exact ⟨_, Tryz.t3, _, rfl, rfl, by kernel_rfl, rfl, Tryz.underlying3, rfl⟩
      | _ + 5, _, _, _, h => by simp at h⟩⟩
theorem ty4 : TyOk Tryz.prog 4 ⟨.bool, 1, 1, [.bool false]⟩ := ⟨⟨Tryz.t4, _, _, by kernel_rfl, Tryz.underlying4, rfl, rfl, rfl, rfl, rfl⟩⟩
theorem ty26 : TyOk Tryz.prog 26 ⟨.slice 5, 1, 24, [.slice none 0 0]⟩ := ⟨⟨Tryz.t26, _, _, by kernel_rfl, Tryz.underlying26, rfl, rfl, rfl, rfl, rfl⟩⟩
theorem ty9 : TyOk Tryz.prog 9 ⟨.string, 1, 16, [.string ByteArray.empty]⟩ := ⟨⟨Tryz.t9, _, _, by kernel_rfl, Tryz.underlying9, rfl, rfl, rfl, rfl, rfl⟩⟩
theorem ty52 : TyOk Tryz.prog 52 ⟨.struct [(0, 1, false), (1, 1, false), (2, 1, false)], 3, 40, [.int .i64 0, .int .i64 0, .slice none 0 0]⟩ := ⟨⟨Tryz.t52, _, _, by kernel_rfl, Tryz.underlying52, rfl, rfl, rfl, rfl, _, rfl, rfl, fun i o n g h => match i, o, n, g, h with
      | 0, o, n, g, h => by cases h; exact ⟨_, Tryz.t3, _, rfl, rfl, by kernel_rfl, rfl, Tryz.underlying3, rfl⟩
      | 1, o, n, g, h => by cases h; exact ⟨_, Tryz.t3, _, rfl, rfl, by kernel_rfl, rfl, Tryz.underlying3, rfl⟩
      | 2, o, n, g, h => by cases h; exact ⟨_, Tryz.t50, _, rfl, rfl, by kernel_rfl, rfl, Tryz.underlying50, rfl⟩
      | _ + 3, _, _, _, h => by simp at h⟩⟩
theorem ty23 : TyOk Tryz.prog 23 ⟨.slice 9, 1, 24, [.slice none 0 0]⟩ := ⟨⟨Tryz.t23, _, _, by kernel_rfl, Tryz.underlying23, rfl, rfl, rfl, rfl, rfl⟩⟩
theorem ty112 : TyOk Tryz.prog 112 ⟨.int .u32, 1, 4, [.int .u32 0]⟩ := ⟨⟨Tryz.t112, _, _, by kernel_rfl, Tryz.underlying112, rfl, rfl, rfl, rfl, rfl⟩⟩
theorem ty5 : TyOk Tryz.prog 5 ⟨.int .u8, 1, 1, [.int .u8 0]⟩ := ⟨⟨Tryz.t5, _, _, by kernel_rfl, Tryz.underlying5, rfl, rfl, rfl, rfl, rfl⟩⟩
theorem ty50 : TyOk Tryz.prog 50 ⟨.slice 3, 1, 24, [.slice none 0 0]⟩ := ⟨⟨Tryz.t50, _, _, by kernel_rfl, Tryz.underlying50, rfl, rfl, rfl, rfl, rfl⟩⟩
theorem ty104 : TyOk Tryz.prog 104 ⟨.int .u64, 1, 8, [.int .u64 0]⟩ := ⟨⟨Tryz.t104, _, _, by kernel_rfl, Tryz.underlying104, rfl, rfl, rfl, rfl, rfl⟩⟩
theorem ty64 : TyOk Tryz.prog 64 ⟨.struct [(0, 1, true), (1, 1, false)], 2, 32, [.slice none 0 0, .int .i64 0]⟩ := ⟨⟨Tryz.t64, _, _, by kernel_rfl, Tryz.underlying64, rfl, rfl, rfl, rfl, _, rfl, rfl, fun i o n g h => match i, o, n, g, h with
      | 0, o, n, g, h => by cases h; exact ⟨_, Tryz.t34, _, rfl, rfl, by kernel_rfl, rfl, Tryz.underlying34, rfl⟩
      | 1, o, n, g, h => by cases h; exact ⟨_, Tryz.t3, _, rfl, rfl, by kernel_rfl, rfl, Tryz.underlying3, rfl⟩
      | _ + 2, _, _, _, h => by simp at h⟩⟩
theorem ty29 : TyOk Tryz.prog 29 ⟨.slice 57, 1, 24, [.slice none 0 0]⟩ := ⟨⟨Tryz.t29, _, _, by kernel_rfl, Tryz.underlying29, rfl, rfl, rfl, rfl, rfl⟩⟩
theorem ty25 : TyOk Tryz.prog 25 ⟨.struct [(0, 1, false)], 1, 24, [.slice none 0 0]⟩ := ⟨⟨Tryz.t25, _, _, by kernel_rfl, Tryz.underlying25, rfl, rfl, rfl, rfl, _, rfl, rfl, fun i o n g h => match i, o, n, g, h with
      | 0, o, n, g, h => by cases h; exact ⟨_, Tryz.t23, _, rfl, rfl, by kernel_rfl, rfl, Tryz.underlying23, rfl⟩
      | _ + 1, _, _, _, h => by simp at h⟩⟩
theorem ty32 : TyOk Tryz.prog 32 ⟨.slice 64, 1, 24, [.slice none 0 0]⟩ := ⟨⟨Tryz.t32, _, _, by kernel_rfl, Tryz.underlying32, rfl, rfl, rfl, rfl, rfl⟩⟩
theorem ty92 : TyOk Tryz.prog 92 ⟨.int .u64, 1, 8, [.int .u64 0]⟩ := ⟨⟨Tryz.t92, _, _, by kernel_rfl, Tryz.underlying92, rfl, rfl, rfl, rfl, rfl⟩⟩
theorem ty2 : TyOk Tryz.prog 2 ⟨.int .i64, 1, 8, [.int .i64 0]⟩ := ⟨⟨Tryz.t2, _, _, by kernel_rfl, Tryz.underlying2, rfl, rfl, rfl, rfl, rfl⟩⟩
theorem ty48 : TyOk Tryz.prog 48 ⟨.struct [(0, 1, true), (1, 1, false)], 2, 32, [.slice none 0 0, .int .i64 0]⟩ := ⟨⟨Tryz.t48, _, _, by kernel_rfl, Tryz.underlying48, rfl, rfl, rfl, rfl, _, rfl, rfl, fun i o n g h => match i, o, n, g, h with
      | 0, o, n, g, h => by cases h; exact ⟨_, Tryz.t25, _, rfl, rfl, by kernel_rfl, rfl, Tryz.underlying25, rfl⟩
      | 1, o, n, g, h => by cases h; exact ⟨_, Tryz.t3, _, rfl, rfl, by kernel_rfl, rfl, Tryz.underlying3, rfl⟩
      | _ + 2, _, _, _, h => by simp at h⟩⟩
theorem ty22 : TyOk Tryz.prog 22 ⟨.slice 48, 1, 24, [.slice none 0 0]⟩ := ⟨⟨Tryz.t22, _, _, by kernel_rfl, Tryz.underlying22, rfl, rfl, rfl, rfl, rfl⟩⟩
theorem ty98 : TyOk Tryz.prog 98 ⟨.slice 50, 1, 24, [.slice none 0 0]⟩ := ⟨⟨Tryz.t98, _, _, by kernel_rfl, Tryz.underlying98, rfl, rfl, rfl, rfl, rfl⟩⟩
theorem ty89 : TyOk Tryz.prog 89 ⟨.other, 1, 8, [.nilFunc]⟩ := ⟨⟨Tryz.t89, _, _, by kernel_rfl, Tryz.underlying89, rfl, rfl, rfl, rfl, rfl⟩⟩
theorem ty90 : TyOk Tryz.prog 90 ⟨.other, 1, 8, [.nilFunc]⟩ := ⟨⟨Tryz.t90, _, _, by kernel_rfl, Tryz.underlying90, rfl, rfl, rfl, rfl, rfl⟩⟩
theorem mixed : Tryz.prog.follows .mixedOrders = true := by kernel_rfl
theorem Γt_ok : ∀ x ∈ Γt, TyOk Tryz.prog x.1 x.2 := by
  intro x hx
  simp only [Γt, List.mem_cons, List.not_mem_nil, or_false] at hx
  rcases hx with rfl | rfl | rfl | rfl | rfl | rfl | rfl | rfl | rfl | rfl | rfl | rfl | rfl | rfl | rfl | rfl | rfl | rfl | rfl | rfl | rfl | rfl | rfl
  · exact ty3
  · exact ty34
  · exact ty57
  · exact ty4
  · exact ty26
  · exact ty9
  · exact ty52
  · exact ty23
  · exact ty112
  · exact ty5
  · exact ty50
  · exact ty104
  · exact ty64
  · exact ty29
  · exact ty25
  · exact ty32
  · exact ty92
  · exact ty2
  · exact ty48
  · exact ty22
  · exact ty98
  · exact ty89
  · exact ty90
def Γ : Env := { ty := Γt, io := [(15, [0]), (16, [0]), (17, [0]), (18, [0]), (39, [0])], esc := [] }
theorem envOk : EnvOk Tryz.prog Γ := envOk_of Γt_ok
abbrev FO (f : Nat) (args outs : List Arg) (res : Arg) : Prop := FOk Tryz.prog f args outs res
abbrev FI (f : Nat) (fn : Func) : Prop := FnIs Tryz.prog f (fn.body.getD .skip) fn.results.toList fn.ntmps
end Go.Proofs.YtckjlakfnpapgaaGreatDoor
