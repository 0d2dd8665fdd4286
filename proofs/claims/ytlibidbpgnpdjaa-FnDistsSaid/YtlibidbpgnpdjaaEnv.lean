/- The table of types and of functions of this translation: no statement of the seat is proved here. No condition. -/
import Derived.Test.YtlibidbpgnpdjaaVc
import Derived.Test.YtlibidbpgnpdjaaChecked
import Derived.KernelRfl
set_option linter.all false
namespace Go.Proofs.Ytlibidbpgnpdjaa
open Go.Vs Go.Proofs
/-- The types of this program, as a small table. -/
def Γt : List (Nat × TyI) := [
  (3, ⟨.int .i64, 1, 8, [.int .i64 0]⟩),
  (51, ⟨.struct [(0, 1, false)], 1, 24, [.slice none 0 0]⟩),
  (26, ⟨.struct [(0, 1, false), (1, 1, false), (2, 1, false), (3, 1, false)], 4, 64, [.int .i64 0, .int .i64 0, .slice none 0 0, .slice none 0 0]⟩),
  (4, ⟨.bool, 1, 1, [.bool false]⟩),
  (23, ⟨.slice 3, 1, 24, [.slice none 0 0]⟩),
  (49, ⟨.slice 9, 1, 24, [.slice none 0 0]⟩),
  (22, ⟨.slice 5, 1, 24, [.slice none 0 0]⟩),
  (35, ⟨.slice 26, 1, 24, [.slice none 0 0]⟩),
  (9, ⟨.string, 1, 16, [.string ByteArray.empty]⟩),
  (24, ⟨.slice 51, 1, 24, [.slice none 0 0]⟩),
  (95, ⟨.int .u64, 1, 8, [.int .u64 0]⟩),
  (86, ⟨.struct [(0, 1, false), (1, 1, false)], 2, 32, [.int .i64 0, .slice none 0 0]⟩),
  (5, ⟨.int .u8, 1, 1, [.int .u8 0]⟩),
  (89, ⟨.slice 107, 1, 24, [.slice none 0 0]⟩),
  (103, ⟨.struct [(0, 1, false), (1, 1, false)], 2, 16, [.int .i64 0, .int .i64 0]⟩),
  (73, ⟨.int .u64, 1, 8, [.int .u64 0]⟩),
  (84, ⟨.slice 103, 1, 24, [.slice none 0 0]⟩),
  (107, ⟨.struct [(0, 1, true), (1, 1, false)], 2, 32, [.slice none 0 0, .int .i64 0]⟩),
  (82, ⟨.struct [(0, 1, false), (1, 1, false), (2, 1, false)], 3, 40, [.slice none 0 0, .int .i64 0, .int .i64 0]⟩),
  (92, ⟨.int .u32, 1, 4, [.int .u32 0]⟩),
  (64, ⟨.other, 1, 8, [.nilFunc]⟩),
  (76, ⟨.other, 1, 8, [.nilFunc]⟩),
  (54, ⟨.other, 1, 8, [.nilFunc]⟩)]
theorem ty3 : TyOk Try.prog 3 ⟨.int .i64, 1, 8, [.int .i64 0]⟩ := ⟨⟨Try.t3, _, _, by kernel_rfl, Try.underlying3, rfl, rfl, rfl, rfl, rfl⟩⟩
theorem ty51 : TyOk Try.prog 51 ⟨.struct [(0, 1, false)], 1, 24, [.slice none 0 0]⟩ := ⟨⟨Try.t51, _, _, by kernel_rfl, Try.underlying51, rfl, rfl, rfl, rfl, _, rfl, rfl, fun i o n g h => match i, o, n, g, h with
      | 0, o, n, g, h => by cases h; exact ⟨_, Try.t49, _, rfl, rfl, by kernel_rfl, rfl, Try.underlying49, rfl⟩
      | _ + 1, _, _, _, h => by simp at h⟩⟩
theorem ty26 : TyOk Try.prog 26 ⟨.struct [(0, 1, false), (1, 1, false), (2, 1, false), (3, 1, false)], 4, 64, [.int .i64 0, .int .i64 0, .slice none 0 0, .slice none 0 0]⟩ := ⟨⟨Try.t26, _, _, by kernel_rfl, Try.underlying26, rfl, rfl, rfl, rfl, _, rfl, rfl, fun i o n g h => match i, o, n, g, h with
      | 0, o, n, g, h => by cases h; exact ⟨_, Try.t3, _, rfl, rfl, by kernel_rfl, rfl, Try.underlying3, rfl⟩
      | 1, o, n, g, h => by cases h; exact ⟨_, Try.t3, _, rfl, rfl, by kernel_rfl, rfl, Try.underlying3, rfl⟩
      | 2, o, n, g, h => by cases h; exact ⟨_, Try.t23, _, rfl, rfl, by kernel_rfl, rfl, Try.underlying23, rfl⟩
      | 3, o, n, g, h => by cases h; exact ⟨_, Try.t24, _, rfl, rfl, by kernel_rfl, rfl, Try.underlying24, rfl⟩
      | _ + 4, _, _, _, h => by simp at h⟩⟩
theorem ty4 : TyOk Try.prog 4 ⟨.bool, 1, 1, [.bool false]⟩ := ⟨⟨Try.t4, _, _, by kernel_rfl, Try.underlying4, rfl, rfl, rfl, rfl, rfl⟩⟩
theorem ty23 : TyOk Try.prog 23 ⟨.slice 3, 1, 24, [.slice none 0 0]⟩ := ⟨⟨Try.t23, _, _, by kernel_rfl, Try.underlying23, rfl, rfl, rfl, rfl, rfl⟩⟩
theorem ty49 : TyOk Try.prog 49 ⟨.slice 9, 1, 24, [.slice none 0 0]⟩ := ⟨⟨Try.t49, _, _, by kernel_rfl, Try.underlying49, rfl, rfl, rfl, rfl, rfl⟩⟩
theorem ty22 : TyOk Try.prog 22 ⟨.slice 5, 1, 24, [.slice none 0 0]⟩ := ⟨⟨Try.t22, _, _, by kernel_rfl, Try.underlying22, rfl, rfl, rfl, rfl, rfl⟩⟩
theorem ty35 : TyOk Try.prog 35 ⟨.slice 26, 1, 24, [.slice none 0 0]⟩ := ⟨⟨Try.t35, _, _, by kernel_rfl, Try.underlying35, rfl, rfl, rfl, rfl, rfl⟩⟩
theorem ty9 : TyOk Try.prog 9 ⟨.string, 1, 16, [.string ByteArray.empty]⟩ := ⟨⟨Try.t9, _, _, by kernel_rfl, Try.underlying9, rfl, rfl, rfl, rfl, rfl⟩⟩
theorem ty24 : TyOk Try.prog 24 ⟨.slice 51, 1, 24, [.slice none 0 0]⟩ := ⟨⟨Try.t24, _, _, by kernel_rfl, Try.underlying24, rfl, rfl, rfl, rfl, rfl⟩⟩
theorem ty95 : TyOk Try.prog 95 ⟨.int .u64, 1, 8, [.int .u64 0]⟩ := ⟨⟨Try.t95, _, _, by kernel_rfl, Try.underlying95, rfl, rfl, rfl, rfl, rfl⟩⟩
theorem ty86 : TyOk Try.prog 86 ⟨.struct [(0, 1, false), (1, 1, false)], 2, 32, [.int .i64 0, .slice none 0 0]⟩ := ⟨⟨Try.t86, _, _, by kernel_rfl, Try.underlying86, rfl, rfl, rfl, rfl, _, rfl, rfl, fun i o n g h => match i, o, n, g, h with
      | 0, o, n, g, h => by cases h; exact ⟨_, Try.t3, _, rfl, rfl, by kernel_rfl, rfl, Try.underlying3, rfl⟩
      | 1, o, n, g, h => by cases h; exact ⟨_, Try.t84, _, rfl, rfl, by kernel_rfl, rfl, Try.underlying84, rfl⟩
      | _ + 2, _, _, _, h => by simp at h⟩⟩
theorem ty5 : TyOk Try.prog 5 ⟨.int .u8, 1, 1, [.int .u8 0]⟩ := ⟨⟨Try.t5, _, _, by kernel_rfl, Try.underlying5, rfl, rfl, rfl, rfl, rfl⟩⟩
theorem ty89 : TyOk Try.prog 89 ⟨.slice 107, 1, 24, [.slice none 0 0]⟩ := ⟨⟨Try.t89, _, _, by kernel_rfl, Try.underlying89, rfl, rfl, rfl, rfl, rfl⟩⟩
theorem ty103 : TyOk Try.prog 103 ⟨.struct [(0, 1, false), (1, 1, false)], 2, 16, [.int .i64 0, .int .i64 0]⟩ := ⟨⟨Try.t103, _, _, by kernel_rfl, Try.underlying103, rfl, rfl, rfl, rfl, _, rfl, rfl, fun i o n g h => match i, o, n, g, h with
      | 0, o, n, g, h => by cases h; exact ⟨_, Try.t3, _, rfl, rfl, by kernel_rfl, rfl, Try.underlying3, rfl⟩
      | 1, o, n, g, h => by cases h; exact ⟨_, Try.t3, _, rfl, rfl, by kernel_rfl, rfl, Try.underlying3, rfl⟩
      | _ + 2, _, _, _, h => by simp at h⟩⟩
theorem ty73 : TyOk Try.prog 73 ⟨.int .u64, 1, 8, [.int .u64 0]⟩ := ⟨⟨Try.t73, _, _, by kernel_rfl, Try.underlying73, rfl, rfl, rfl, rfl, rfl⟩⟩
theorem ty84 : TyOk Try.prog 84 ⟨.slice 103, 1, 24, [.slice none 0 0]⟩ := ⟨⟨Try.t84, _, _, by kernel_rfl, Try.underlying84, rfl, rfl, rfl, rfl, rfl⟩⟩
theorem ty107 : TyOk Try.prog 107 ⟨.struct [(0, 1, true), (1, 1, false)], 2, 32, [.slice none 0 0, .int .i64 0]⟩ := ⟨⟨Try.t107, _, _, by kernel_rfl, Try.underlying107, rfl, rfl, rfl, rfl, _, rfl, rfl, fun i o n g h => match i, o, n, g, h with
      | 0, o, n, g, h => by cases h; exact ⟨_, Try.t51, _, rfl, rfl, by kernel_rfl, rfl, Try.underlying51, rfl⟩
      | 1, o, n, g, h => by cases h; exact ⟨_, Try.t3, _, rfl, rfl, by kernel_rfl, rfl, Try.underlying3, rfl⟩
      | _ + 2, _, _, _, h => by simp at h⟩⟩
theorem ty82 : TyOk Try.prog 82 ⟨.struct [(0, 1, false), (1, 1, false), (2, 1, false)], 3, 40, [.slice none 0 0, .int .i64 0, .int .i64 0]⟩ := ⟨⟨Try.t82, _, _, by kernel_rfl, Try.underlying82, rfl, rfl, rfl, rfl, _, rfl, rfl, fun i o n g h => match i, o, n, g, h with
      | 0, o, n, g, h => by cases h; exact ⟨_, Try.t22, _, rfl, rfl, by kernel_rfl, rfl, Try.underlying22, rfl⟩
      | 1, o, n, g, h => by cases h; exact ⟨_, Try.t3, _, rfl, rfl, by kernel_rfl, rfl, Try.underlying3, rfl⟩
      | 2, o, n, g, h => by cases h; exact ⟨_, Try.t3, _, rfl, rfl, by kernel_rfl, rfl, Try.underlying3, rfl⟩
      | _ + 3, _, _, _, h => by simp at h⟩⟩
theorem ty92 : TyOk Try.prog 92 ⟨.int .u32, 1, 4, [.int .u32 0]⟩ := ⟨⟨Try.t92, _, _, by kernel_rfl, Try.underlying92, rfl, rfl, rfl, rfl, rfl⟩⟩
theorem ty64 : TyOk Try.prog 64 ⟨.other, 1, 8, [.nilFunc]⟩ := ⟨⟨Try.t64, _, _, by kernel_rfl, Try.underlying64, rfl, rfl, rfl, rfl, rfl⟩⟩
theorem ty76 : TyOk Try.prog 76 ⟨.other, 1, 8, [.nilFunc]⟩ := ⟨⟨Try.t76, _, _, by kernel_rfl, Try.underlying76, rfl, rfl, rfl, rfl, rfl⟩⟩
theorem ty54 : TyOk Try.prog 54 ⟨.other, 1, 8, [.nilFunc]⟩ := ⟨⟨Try.t54, _, _, by kernel_rfl, Try.underlying54, rfl, rfl, rfl, rfl, rfl⟩⟩
theorem mixed : Try.prog.follows .mixedOrders = true := by kernel_rfl
theorem Γt_ok : ∀ x ∈ Γt, TyOk Try.prog x.1 x.2 := by
  intro x hx
  simp only [Γt, List.mem_cons, List.not_mem_nil, or_false] at hx
  rcases hx with rfl | rfl | rfl | rfl | rfl | rfl | rfl | rfl | rfl | rfl | rfl | rfl | rfl | rfl | rfl | rfl | rfl | rfl | rfl | rfl | rfl | rfl | rfl
  · exact ty3
  · exact ty51
  · exact ty26
  · exact ty4
  · exact ty23
  · exact ty49
  · exact ty22
  · exact ty35
  · exact ty9
  · exact ty24
  · exact ty95
  · exact ty86
  · exact ty5
  · exact ty89
  · exact ty103
  · exact ty73
  · exact ty84
  · exact ty107
  · exact ty82
  · exact ty92
  · exact ty64
  · exact ty76
  · exact ty54
def Γ : Env := { ty := Γt, io := [(10, [0]), (11, [0]), (38, [0]), (39, [0]), (60, [0]), (63, [0]), (64, [0]), (78, [0]), (79, [0]), (80, [0]), (82, [0]), (83, [0]), (87, [1000]), (88, [0]), (89, [0]), (93, [0]), (94, [1000]), (98, [0]), (99, [0]), (103, [0]), (109, [0])], esc := [82] }
theorem envOk : EnvOk Try.prog Γ := envOk_of Γt_ok
abbrev FO (f : Nat) (args outs : List Arg) (res : Arg) : Prop := FOk Try.prog f args outs res
abbrev FI (f : Nat) (fn : Func) : Prop := FnIs Try.prog f (fn.body.getD .skip) fn.results.toList fn.ntmps
end Go.Proofs.Ytlibidbpgnpdjaa
