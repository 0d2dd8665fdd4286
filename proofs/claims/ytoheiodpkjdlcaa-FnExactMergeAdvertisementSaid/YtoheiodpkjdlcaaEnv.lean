/- The table of types and of functions of this translation: no statement of the seat is proved here. No condition. -/
import Derived.Test.YtoheiodpkjdlcaaVc
import Derived.Test.YtoheiodpkjdlcaaChecked
import Derived.KernelRfl
set_option linter.all false
namespace Go.Proofs.Ytoheiodpkjdlcaa
open Go.Vs Go.Proofs
/-- The types of this program, as a small table. -/
def Γt : List (Nat × TyI) := [
  (3, ⟨.int .i64, 1, 8, [.int .i64 0]⟩),
  (37, ⟨.struct [(0, 1, false), (1, 1, false), (2, 1, false), (3, 1, false)], 4, 64, [.int .i64 0, .int .i64 0, .slice none 0 0, .slice none 0 0]⟩),
  (67, ⟨.struct [(0, 1, false)], 1, 24, [.slice none 0 0]⟩),
  (4, ⟨.bool, 1, 1, [.bool false]⟩),
  (28, ⟨.slice 3, 1, 24, [.slice none 0 0]⟩),
  (24, ⟨.slice 37, 1, 24, [.slice none 0 0]⟩),
  (65, ⟨.slice 9, 1, 24, [.slice none 0 0]⟩),
  (35, ⟨.slice 67, 1, 24, [.slice none 0 0]⟩),
  (9, ⟨.string, 1, 16, [.string ByteArray.empty]⟩),
  (22, ⟨.slice 5, 1, 24, [.slice none 0 0]⟩),
  (114, ⟨.int .u64, 1, 8, [.int .u64 0]⟩),
  (105, ⟨.struct [(0, 1, false), (1, 1, false)], 2, 32, [.int .i64 0, .slice none 0 0]⟩),
  (5, ⟨.int .u8, 1, 1, [.int .u8 0]⟩),
  (108, ⟨.slice 130, 1, 24, [.slice none 0 0]⟩),
  (126, ⟨.struct [(0, 1, false), (1, 1, false)], 2, 16, [.int .i64 0, .int .i64 0]⟩),
  (86, ⟨.int .u64, 1, 8, [.int .u64 0]⟩),
  (48, ⟨.struct [(0, 1, false), (1, 1, false), (2, 1, false), (3, 1, false)], 4, 64, [.int .i64 0, .int .i64 0, .slice none 0 0, .slice none 0 0]⟩),
  (103, ⟨.slice 126, 1, 24, [.slice none 0 0]⟩),
  (130, ⟨.struct [(0, 1, true), (1, 1, false)], 2, 32, [.slice none 0 0, .int .i64 0]⟩),
  (101, ⟨.struct [(0, 1, false), (1, 1, false), (2, 1, false)], 3, 40, [.slice none 0 0, .int .i64 0, .int .i64 0]⟩),
  (111, ⟨.int .u32, 1, 4, [.int .u32 0]⟩),
  (96, ⟨.struct [(0, 1, false)], 1, 24, [.slice none 0 0]⟩),
  (46, ⟨.slice 96, 1, 24, [.slice none 0 0]⟩),
  (45, ⟨.slice 48, 1, 24, [.slice none 0 0]⟩),
  (91, ⟨.other, 1, 8, [.nilFunc]⟩),
  (117, ⟨.other, 1, 8, [.nilFunc]⟩),
  (70, ⟨.other, 1, 8, [.nilFunc]⟩)]
theorem ty3 : TyOk Try.prog 3 ⟨.int .i64, 1, 8, [.int .i64 0]⟩ := ⟨⟨Try.t3, _, _, by kernel_rfl, Try.underlying3, rfl, rfl, rfl, rfl, rfl⟩⟩
theorem ty37 : TyOk Try.prog 37 ⟨.struct [(0, 1, false), (1, 1, false), (2, 1, false), (3, 1, false)], 4, 64, [.int .i64 0, .int .i64 0, .slice none 0 0, .slice none 0 0]⟩ := ⟨⟨Try.t37, _, _, by kernel_rfl, Try.underlying37, rfl, rfl, rfl, rfl, _, rfl, rfl, fun i o n g h => match i, o, n, g, h with
      | 0, o, n, g, h => by cases h; exact ⟨_, Try.t3, _, rfl, rfl, by kernel_rfl, rfl, Try.underlying3, rfl⟩
      | 1, o, n, g, h => by cases h; exact ⟨_, Try.t3, _, rfl, rfl, by kernel_rfl, rfl, Try.underlying3, rfl⟩
      | 2, o, n, g, h => by cases h; exact ⟨_, Try.t28, _, rfl, rfl, by kernel_rfl, rfl, Try.underlying28, rfl⟩
      | 3, o, n, g, h => by cases h; exact ⟨_, Try.t35, _, rfl, rfl, by kernel_rfl, rfl, Try.underlying35, rfl⟩
      | _ + 4, _, _, _, h => by simp at h⟩⟩
theorem ty67 : TyOk Try.prog 67 ⟨.struct [(0, 1, false)], 1, 24, [.slice none 0 0]⟩ := ⟨⟨Try.t67, _, _, by kernel_rfl, Try.underlying67, rfl, rfl, rfl, rfl, _, rfl, rfl, fun i o n g h => match i, o, n, g, h with
      | 0, o, n, g, h => by cases h; exact ⟨_, Try.t65, _, rfl, rfl, by kernel_rfl, rfl, Try.underlying65, rfl⟩
      | _ + 1, _, _, _, h => by simp at h⟩⟩
theorem ty4 : TyOk Try.prog 4 ⟨.bool, 1, 1, [.bool false]⟩ := ⟨⟨Try.t4, _, _, by kernel_rfl, Try.underlying4, rfl, rfl, rfl, rfl, rfl⟩⟩
theorem ty28 : TyOk Try.prog 28 ⟨.slice 3, 1, 24, [.slice none 0 0]⟩ := ⟨⟨Try.t28, _, _, by kernel_rfl, Try.underlying28, rfl, rfl, rfl, rfl, rfl⟩⟩
theorem ty24 : TyOk Try.prog 24 ⟨.slice 37, 1, 24, [.slice none 0 0]⟩ := ⟨⟨Try.t24, _, _, by kernel_rfl, Try.underlying24, rfl, rfl, rfl, rfl, rfl⟩⟩
theorem ty65 : TyOk Try.prog 65 ⟨.slice 9, 1, 24, [.slice none 0 0]⟩ := ⟨⟨Try.t65, _, _, by kernel_rfl, Try.underlying65, rfl, rfl, rfl, rfl, rfl⟩⟩
theorem ty35 : TyOk Try.prog 35 ⟨.slice 67, 1, 24, [.slice none 0 0]⟩ := ⟨⟨Try.t35, _, _, by kernel_rfl, Try.underlying35, rfl, rfl, rfl, rfl, rfl⟩⟩
theorem ty9 : TyOk Try.prog 9 ⟨.string, 1, 16, [.string ByteArray.empty]⟩ := ⟨⟨Try.t9, _, _, by kernel_rfl, Try.underlying9, rfl, rfl, rfl, rfl, rfl⟩⟩
theorem ty22 : TyOk Try.prog 22 ⟨.slice 5, 1, 24, [.slice none 0 0]⟩ := ⟨⟨Try.t22, _, _, by kernel_rfl, Try.underlying22, rfl, rfl, rfl, rfl, rfl⟩⟩
theorem ty114 : TyOk Try.prog 114 ⟨.int .u64, 1, 8, [.int .u64 0]⟩ := ⟨⟨Try.t114, _, _, by kernel_rfl, Try.underlying114, rfl, rfl, rfl, rfl, rfl⟩⟩
theorem ty105 : TyOk Try.prog 105 ⟨.struct [(0, 1, false), (1, 1, false)], 2, 32, [.int .i64 0, .slice none 0 0]⟩ := ⟨⟨Try.t105, _, _, by kernel_rfl, Try.underlying105, rfl, rfl, rfl, rfl, _, rfl, rfl, fun i o n g h => match i, o, n, g, h with
      | 0, o, n, g, h => by cases h; exact ⟨_, Try.t3, _, rfl, rfl, by kernel_rfl, rfl, Try.underlying3, rfl⟩
      | 1, o, n, g, h => by cases h; exact ⟨_, Try.t103, _, rfl, rfl, by kernel_rfl, rfl, Try.underlying103, rfl⟩
      | _ + 2, _, _, _, h => by simp at h⟩⟩
theorem ty5 : TyOk Try.prog 5 ⟨.int .u8, 1, 1, [.int .u8 0]⟩ := ⟨⟨Try.t5, _, _, by kernel_rfl, Try.underlying5, rfl, rfl, rfl, rfl, rfl⟩⟩
theorem ty108 : TyOk Try.prog 108 ⟨.slice 130, 1, 24, [.slice none 0 0]⟩ := ⟨⟨Try.t108, _, _, by kernel_rfl, Try.underlying108, rfl, rfl, rfl, rfl, rfl⟩⟩
theorem ty126 : TyOk Try.prog 126 ⟨.struct [(0, 1, false), (1, 1, false)], 2, 16, [.int .i64 0, .int .i64 0]⟩ := ⟨⟨Try.t126, _, _, by kernel_rfl, Try.underlying126, rfl, rfl, rfl, rfl, _, rfl, rfl, fun i o n g h => match i, o, n, g, h with
      | 0, o, n, g, h => by cases h; exact ⟨_, Try.t3, _, rfl, rfl, by kernel_rfl, rfl, Try.underlying3, rfl⟩
      | 1, o, n, g, h => by cases h; exact ⟨_, Try.t3, _, rfl, rfl, by kernel_rfl, rfl, Try.underlying3, rfl⟩
      | _ + 2, _, _, _, h => by simp at h⟩⟩
theorem ty86 : TyOk Try.prog 86 ⟨.int .u64, 1, 8, [.int .u64 0]⟩ := ⟨⟨Try.t86, _, _, by kernel_rfl, Try.underlying86, rfl, rfl, rfl, rfl, rfl⟩⟩
theorem ty48 : TyOk Try.prog 48 ⟨.struct [(0, 1, false), (1, 1, false), (2, 1, false), (3, 1, false)], 4, 64, [.int .i64 0, .int .i64 0, .slice none 0 0, .slice none 0 0]⟩ := ⟨⟨Try.t48, _, _, by kernel_rfl, Try.underlying48, rfl, rfl, rfl, rfl, _, rfl, rfl, fun i o n g h => match i, o, n, g, h with
      | 0, o, n, g, h => by cases h; exact ⟨_, Try.t3, _, rfl, rfl, by kernel_rfl, rfl, Try.underlying3, rfl⟩
      | 1, o, n, g, h => by cases h; exact ⟨_, Try.t3, _, rfl, rfl, by kernel_rfl, rfl, Try.underlying3, rfl⟩
      | 2, o, n, g, h => by cases h; exact ⟨_, Try.t28, _, rfl, rfl, by kernel_rfl, rfl, Try.underlying28, rfl⟩
      | 3, o, n, g, h => by cases h; exact ⟨_, Try.t46, _, rfl, rfl, by kernel_rfl, rfl, Try.underlying46, rfl⟩
      | _ + 4, _, _, _, h => by simp at h⟩⟩
theorem ty103 : TyOk Try.prog 103 ⟨.slice 126, 1, 24, [.slice none 0 0]⟩ := ⟨⟨Try.t103, _, _, by kernel_rfl, Try.underlying103, rfl, rfl, rfl, rfl, rfl⟩⟩
theorem ty130 : TyOk Try.prog 130 ⟨.struct [(0, 1, true), (1, 1, false)], 2, 32, [.slice none 0 0, .int .i64 0]⟩ := ⟨⟨Try.t130, _, _, by kernel_rfl, Try.underlying130, rfl, rfl, rfl, rfl, _, rfl, rfl, fun i o n g h => match i, o, n, g, h with
      | 0, o, n, g, h => by cases h; exact ⟨_, Try.t67, _, rfl, rfl, by kernel_rfl, rfl, Try.underlying67, rfl⟩
      | 1, o, n, g, h => by cases h; exact ⟨_, Try.t3, _, rfl, rfl, by kernel_rfl, rfl, Try.underlying3, rfl⟩
      | _ + 2, _, _, _, h => by simp at h⟩⟩
theorem ty101 : TyOk Try.prog 101 ⟨.struct [(0, 1, false), (1, 1, false), (2, 1, false)], 3, 40, [.slice none 0 0, .int .i64 0, .int .i64 0]⟩ := ⟨⟨Try.t101, _, _, by kernel_rfl, Try.underlying101, rfl, rfl, rfl, rfl, _, rfl, rfl, fun i o n g h => match i, o, n, g, h with
      | 0, o, n, g, h => by cases h; exact ⟨_, Try.t22, _, rfl, rfl, by kernel_rfl, rfl, Try.underlying22, rfl⟩
      | 1, o, n, g, h => by cases h; exact ⟨_, Try.t3, _, rfl, rfl, by kernel_rfl, rfl, Try.underlying3, rfl⟩
      | 2, o, n, g, h => by cases h; exact ⟨_, Try.t3, _, rfl, rfl, by kernel_rfl, rfl, Try.underlying3, rfl⟩
      | _ + 3, _, _, _, h => by simp at h⟩⟩
theorem ty111 : TyOk Try.prog 111 ⟨.int .u32, 1, 4, [.int .u32 0]⟩ := ⟨⟨Try.t111, _, _, by kernel_rfl, Try.underlying111, rfl, rfl, rfl, rfl, rfl⟩⟩
theorem ty96 : TyOk Try.prog 96 ⟨.struct [(0, 1, false)], 1, 24, [.slice none 0 0]⟩ := ⟨⟨Try.t96, _, _, by kernel_rfl, Try.underlying96, rfl, rfl, rfl, rfl, _, rfl, rfl, fun i o n g h => match i, o, n, g, h with
      | 0, o, n, g, h => by cases h; exact ⟨_, Try.t65, _, rfl, rfl, by kernel_rfl, rfl, Try.underlying65, rfl⟩
      | _ + 1, _, _, _, h => by simp at h⟩⟩
theorem ty46 : TyOk Try.prog 46 ⟨.slice 96, 1, 24, [.slice none 0 0]⟩ := ⟨⟨Try.t46, _, _, by kernel_rfl, Try.underlying46, rfl, rfl, rfl, rfl, rfl⟩⟩
theorem ty45 : TyOk Try.prog 45 ⟨.slice 48, 1, 24, [.slice none 0 0]⟩ := ⟨⟨Try.t45, _, _, by kernel_rfl, Try.underlying45, rfl, rfl, rfl, rfl, rfl⟩⟩
theorem ty91 : TyOk Try.prog 91 ⟨.other, 1, 8, [.nilFunc]⟩ := ⟨⟨Try.t91, _, _, by kernel_rfl, Try.underlying91, rfl, rfl, rfl, rfl, rfl⟩⟩
theorem ty117 : TyOk Try.prog 117 ⟨.other, 1, 8, [.nilFunc]⟩ := ⟨⟨Try.t117, _, _, by kernel_rfl, Try.underlying117, rfl, rfl, rfl, rfl, rfl⟩⟩
theorem ty70 : TyOk Try.prog 70 ⟨.other, 1, 8, [.nilFunc]⟩ := ⟨⟨Try.t70, _, _, by kernel_rfl, Try.underlying70, rfl, rfl, rfl, rfl, rfl⟩⟩
theorem mixed : Try.prog.follows .mixedOrders = true := by kernel_rfl
theorem Γt_ok : ∀ x ∈ Γt, TyOk Try.prog x.1 x.2 := by
  intro x hx
  simp only [Γt, List.mem_cons, List.not_mem_nil, or_false] at hx
  rcases hx with rfl | rfl | rfl | rfl | rfl | rfl | rfl | rfl | rfl | rfl | rfl | rfl | rfl | rfl | rfl | rfl | rfl | rfl | rfl | rfl | rfl | rfl | rfl | rfl | rfl | rfl | rfl
  · exact ty3
  · exact ty37
  · exact ty67
  · exact ty4
  · exact ty28
  · exact ty24
  · exact ty65
  · exact ty35
  · exact ty9
  · exact ty22
  · exact ty114
  · exact ty105
  · exact ty5
  · exact ty108
  · exact ty126
  · exact ty86
  · exact ty48
  · exact ty103
  · exact ty130
  · exact ty101
  · exact ty111
  · exact ty96
  · exact ty46
  · exact ty45
  · exact ty91
  · exact ty117
  · exact ty70
def Γ : Env := { ty := Γt, io := [(27, [0]), (28, [0]), (32, [1000]), (37, [0]), (58, [0]), (59, [0]), (74, [0, 2]), (76, [0]), (77, [0]), (90, [0]), (99, [0]), (100, [0]), (101, [0]), (103, [0]), (104, [0]), (120, [0]), (121, [0]), (124, [0]), (129, [0]), (130, [0]), (134, [0]), (139, [0])], esc := [101] }
theorem envOk : EnvOk Try.prog Γ := envOk_of Γt_ok
abbrev FO (f : Nat) (args outs : List Arg) (res : Arg) : Prop := FOk Try.prog f args outs res
abbrev FI (f : Nat) (fn : Func) : Prop := FnIs Try.prog f (fn.body.getD .skip) fn.results.toList fn.ntmps
end Go.Proofs.Ytoheiodpkjdlcaa
