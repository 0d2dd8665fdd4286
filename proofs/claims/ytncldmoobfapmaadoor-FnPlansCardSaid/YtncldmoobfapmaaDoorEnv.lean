/- The table of types and of functions of this translation: no statement of the seat is proved here. No condition. -/
import Derived.Test.YtncldmoobfapmaaDoorVc
import Derived.Test.YtncldmoobfapmaaDoorChecked
import Derived.KernelRfl
set_option linter.all false
namespace Go.Proofs.YtncldmoobfapmaaDoor
open Go.Vs Go.Proofs
/-- The types of this program, as a small table. -/
def Γt : List (Nat × TyI) := [
  (3, ⟨.int .i64, 1, 8, [.int .i64 0]⟩),
  (28, ⟨.struct [(0, 1, false), (1, 1, false), (2, 1, false)], 3, 40, [.int .i64 0, .int .i64 0, .slice none 0 0]⟩),
  (40, ⟨.struct [(0, 1, false)], 1, 24, [.slice none 0 0]⟩),
  (22, ⟨.slice 5, 1, 24, [.slice none 0 0]⟩),
  (4, ⟨.bool, 1, 1, [.bool false]⟩),
  (26, ⟨.slice 3, 1, 24, [.slice none 0 0]⟩),
  (101, ⟨.int .u32, 1, 4, [.int .u32 0]⟩),
  (5, ⟨.int .u8, 1, 1, [.int .u8 0]⟩),
  (9, ⟨.string, 1, 16, [.string ByteArray.empty]⟩),
  (93, ⟨.int .u64, 1, 8, [.int .u64 0]⟩),
  (38, ⟨.slice 9, 1, 24, [.slice none 0 0]⟩),
  (85, ⟨.int .u64, 1, 8, [.int .u64 0]⟩),
  (2, ⟨.int .i64, 1, 8, [.int .i64 0]⟩),
  (76, ⟨.struct [(0, 1, false), (1, 1, false), (2, 1, false)], 3, 40, [.slice none 0 0, .int .i64 0, .int .i64 0]⟩),
  (74, ⟨.other, 1, 8, [.nilFunc]⟩),
  (88, ⟨.other, 1, 8, [.nilFunc]⟩)]
theorem ty3 : TyOk Tryd.prog 3 ⟨.int .i64, 1, 8, [.int .i64 0]⟩ := ⟨⟨Tryd.t3, _, _, by kernel_rfl, Tryd.underlying3, rfl, rfl, rfl, rfl, rfl⟩⟩
theorem ty28 : TyOk Tryd.prog 28 ⟨.struct [(0, 1, false), (1, 1, false), (2, 1, false)], 3, 40, [.int .i64 0, .int .i64 0, .slice none 0 0]⟩ := ⟨⟨Tryd.t28, _, _, by kernel_rfl, Tryd.underlying28, rfl, rfl, rfl, rfl, _, rfl, rfl, fun i o n g h => match i, o, n, g, h with
      | 0, o, n, g, h => by cases h; exact ⟨_, Tryd.t3, _, rfl, rfl, by kernel_rfl, rfl, Tryd.underlying3, rfl⟩
      | 1, o, n, g, h => by cases h; exact ⟨_, Tryd.t3, _, rfl, rfl, by kernel_rfl, rfl, Tryd.underlying3, rfl⟩
      | 2, o, n, g, h => by cases h; exact ⟨_, Tryd.t26, _, rfl, rfl, by kernel_rfl, rfl, Tryd.underlying26, rfl⟩
      | _ + 3, _, _, _, h => by simp at h⟩⟩
theorem ty40 : TyOk Tryd.prog 40 ⟨.struct [(0, 1, false)], 1, 24, [.slice none 0 0]⟩ := ⟨⟨Tryd.t40, _, _, by kernel_rfl, Tryd.underlying40, rfl, rfl, rfl, rfl, _, rfl, rfl, fun i o n g h => match i, o, n, g, h with
      | 0, o, n, g, h => by cases h; exact ⟨_, Tryd.t38, _, rfl, rfl, by kernel_rfl, rfl, Tryd.underlying38, rfl⟩
      | _ + 1, _, _, _, h => by simp at h⟩⟩
theorem ty22 : TyOk Tryd.prog 22 ⟨.slice 5, 1, 24, [.slice none 0 0]⟩ := ⟨⟨Tryd.t22, _, _, by kernel_rfl, Tryd.underlying22, rfl, rfl, rfl, rfl, rfl⟩⟩
theorem ty4 : TyOk Tryd.prog 4 ⟨.bool, 1, 1, [.bool false]⟩ := ⟨⟨Tryd.t4, _, _, by kernel_rfl, Tryd.underlying4, rfl, rfl, rfl, rfl, rfl⟩⟩
theorem ty26 : TyOk Tryd.prog 26 ⟨.slice 3, 1, 24, [.slice none 0 0]⟩ := ⟨⟨Tryd.t26, _, _, by kernel_rfl, Tryd.underlying26, rfl, rfl, rfl, rfl, rfl⟩⟩
theorem ty101 : TyOk Tryd.prog 101 ⟨.int .u32, 1, 4, [.int .u32 0]⟩ := ⟨⟨Tryd.t101, _, _, by kernel_rfl, Tryd.underlying101, rfl, rfl, rfl, rfl, rfl⟩⟩
theorem ty5 : TyOk Tryd.prog 5 ⟨.int .u8, 1, 1, [.int .u8 0]⟩ := ⟨⟨Tryd.t5, _, _, by kernel_rfl, Tryd.underlying5, rfl, rfl, rfl, rfl, rfl⟩⟩
theorem ty9 : TyOk Tryd.prog 9 ⟨.string, 1, 16, [.string ByteArray.empty]⟩ := ⟨⟨Tryd.t9, _, _, by kernel_rfl, Tryd.underlying9, rfl, rfl, rfl, rfl, rfl⟩⟩
theorem ty93 : TyOk Tryd.prog 93 ⟨.int .u64, 1, 8, [.int .u64 0]⟩ := ⟨⟨Tryd.t93, _, _, by kernel_rfl, Tryd.underlying93, rfl, rfl, rfl, rfl, rfl⟩⟩
theorem ty38 : TyOk Tryd.prog 38 ⟨.slice 9, 1, 24, [.slice none 0 0]⟩ := ⟨⟨Tryd.t38, _, _, by kernel_rfl, Tryd.underlying38, rfl, rfl, rfl, rfl, rfl⟩⟩
theorem ty85 : TyOk Tryd.prog 85 ⟨.int .u64, 1, 8, [.int .u64 0]⟩ := ⟨⟨Tryd.t85, _, _, by kernel_rfl, Tryd.underlying85, rfl, rfl, rfl, rfl, rfl⟩⟩
theorem ty2 : TyOk Tryd.prog 2 ⟨.int .i64, 1, 8, [.int .i64 0]⟩ := ⟨⟨Tryd.t2, _, _, by kernel_rfl, Tryd.underlying2, rfl, rfl, rfl, rfl, rfl⟩⟩
theorem ty76 : TyOk Tryd.prog 76 ⟨.struct [(0, 1, false), (1, 1, false), (2, 1, false)], 3, 40, [.slice none 0 0, .int .i64 0, .int .i64 0]⟩ := ⟨⟨Tryd.t76, _, _, by kernel_rfl, Tryd.underlying76, rfl, rfl, rfl, rfl, _, rfl, rfl, fun i o n g h => match i, o, n, g, h with
      | 0, o, n, g, h => by cases h; exact ⟨_, Tryd.t22, _, rfl, rfl, by kernel_rfl, rfl, Tryd.underlying22, rfl⟩
      | 1, o, n, g, h => by cases h; exact ⟨_, Tryd.t3, _, rfl, rfl, by kernel_rfl, rfl, Tryd.underlying3, rfl⟩
      | 2, o, n, g, h => by cases h; exact ⟨_, Tryd.t3, _, rfl, rfl, by kernel_rfl, rfl, Tryd.underlying3, rfl⟩
      | _ + 3, _, _, _, h => by simp at h⟩⟩
theorem ty74 : TyOk Tryd.prog 74 ⟨.other, 1, 8, [.nilFunc]⟩ := ⟨⟨Tryd.t74, _, _, by kernel_rfl, Tryd.underlying74, rfl, rfl, rfl, rfl, rfl⟩⟩
theorem ty88 : TyOk Tryd.prog 88 ⟨.other, 1, 8, [.nilFunc]⟩ := ⟨⟨Tryd.t88, _, _, by kernel_rfl, Tryd.underlying88, rfl, rfl, rfl, rfl, rfl⟩⟩
theorem mixed : Tryd.prog.follows .mixedOrders = true := by kernel_rfl
theorem Γt_ok : ∀ x ∈ Γt, TyOk Tryd.prog x.1 x.2 := by
  intro x hx
  simp only [Γt, List.mem_cons, List.not_mem_nil, or_false] at hx
  rcases hx with rfl | rfl | rfl | rfl | rfl | rfl | rfl | rfl | rfl | rfl | rfl | rfl | rfl | rfl | rfl | rfl
  · exact ty3
  · exact ty28
  · exact ty40
  · exact ty22
  · exact ty4
  · exact ty26
  · exact ty101
  · exact ty5
  · exact ty9
  · exact ty93
  · exact ty38
  · exact ty85
  · exact ty2
  · exact ty76
  · exact ty74
  · exact ty88
def Γ : Env := { ty := Γt, io := [(30, [0]), (31, [0]), (35, [0]), (36, [0]), (37, [0]), (43, [0]), (44, [0]), (60, [0]), (62, [0]), (65, [0]), (66, [0]), (75, [0])], esc := [76] }
theorem envOk : EnvOk Tryd.prog Γ := envOk_of Γt_ok
abbrev FO (f : Nat) (args outs : List Arg) (res : Arg) : Prop := FOk Tryd.prog f args outs res
abbrev FI (f : Nat) (fn : Func) : Prop := FnIs Tryd.prog f (fn.body.getD .skip) fn.results.toList fn.ntmps
end Go.Proofs.YtncldmoobfapmaaDoor
