/- The table of types and of functions of this translation: no statement of the seat is proved here. No condition. -/
import Derived.Test.YtleljkfmeomnpaaVc
import Derived.Test.YtleljkfmeomnpaaChecked
import Derived.KernelRfl
set_option linter.all false
namespace Go.Proofs.Ytleljkfmeomnpaa
open Go.Vs Go.Proofs
/-- The types of this program, as a small table. -/
def Γt : List (Nat × TyI) := [
  (3, ⟨.int .i64, 1, 8, [.int .i64 0]⟩),
  (32, ⟨.struct [(0, 1, false)], 1, 24, [.slice none 0 0]⟩),
  (4, ⟨.bool, 1, 1, [.bool false]⟩),
  (51, ⟨.struct [(0, 1, false), (1, 1, false)], 2, 32, [.int .i64 0, .slice none 0 0]⟩),
  (28, ⟨.slice 3, 1, 24, [.slice none 0 0]⟩),
  (108, ⟨.struct [(0, 1, true), (1, 1, false), (2, 1, false)], 3, 40, [.slice none 0 0, .int .i64 0, .int .i64 0]⟩),
  (23, ⟨.slice 9, 1, 24, [.slice none 0 0]⟩),
  (121, ⟨.struct [(0, 1, false), (1, 1, false)], 2, 16, [.int .i64 0, .int .i64 0]⟩),
  (77, ⟨.struct [(0, 1, false), (1, 1, false), (2, 1, false), (3, 1, false)], 4, 64, [.int .i64 0, .int .i64 0, .slice none 0 0, .slice none 0 0]⟩),
  (30, ⟨.slice 77, 1, 24, [.slice none 0 0]⟩),
  (64, ⟨.slice 108, 1, 24, [.slice none 0 0]⟩),
  (150, ⟨.int .u64, 1, 8, [.int .u64 0]⟩),
  (75, ⟨.slice 32, 1, 24, [.slice none 0 0]⟩),
  (9, ⟨.string, 1, 16, [.string ByteArray.empty]⟩),
  (49, ⟨.slice 121, 1, 24, [.slice none 0 0]⟩),
  (25, ⟨.struct [(0, 1, false)], 1, 24, [.slice none 0 0]⟩),
  (98, ⟨.struct [(0, 1, true), (1, 1, false)], 2, 32, [.slice none 0 0, .int .i64 0]⟩),
  (46, ⟨.struct [(0, 1, false), (1, 1, false)], 2, 32, [.int .i64 0, .slice none 0 0]⟩),
  (140, ⟨.int .u64, 1, 8, [.int .u64 0]⟩),
  (58, ⟨.slice 98, 1, 24, [.slice none 0 0]⟩),
  (72, ⟨.struct [(0, 1, false), (1, 1, false), (2, 1, false), (3, 1, false)], 4, 64, [.int .i64 0, .int .i64 0, .slice none 0 0, .slice none 0 0]⟩),
  (5, ⟨.int .u8, 1, 1, [.int .u8 0]⟩),
  (147, ⟨.int .u32, 1, 4, [.int .u32 0]⟩),
  (22, ⟨.slice 72, 1, 24, [.slice none 0 0]⟩),
  (93, ⟨.struct [(0, 1, true), (1, 1, false)], 2, 32, [.slice none 0 0, .int .i64 0]⟩),
  (70, ⟨.slice 25, 1, 24, [.slice none 0 0]⟩),
  (55, ⟨.slice 93, 1, 24, [.slice none 0 0]⟩),
  (44, ⟨.slice 123, 1, 24, [.slice none 0 0]⟩),
  (123, ⟨.struct [(0, 1, false), (1, 1, false)], 2, 16, [.int .i64 0, .int .i64 0]⟩),
  (81, ⟨.other, 1, 8, [.nilFunc]⟩),
  (132, ⟨.slice 5, 1, 24, [.slice none 0 0]⟩),
  (145, ⟨.other, 1, 8, [.nilFunc]⟩),
  (116, ⟨.other, 1, 8, [.nilFunc]⟩),
  (130, ⟨.other, 1, 8, [.nilFunc]⟩),
  (137, ⟨.other, 1, 8, [.nilFunc]⟩)]
theorem ty3 : TyOk Try.prog 3 ⟨.int .i64, 1, 8, [.int .i64 0]⟩ := ⟨⟨Try.t3, _, _, by kernel_rfl, Try.underlying3, rfl, rfl, rfl, rfl, rfl⟩⟩
theorem ty32 : TyOk Try.prog 32 ⟨.struct [(0, 1, false)], 1, 24, [.slice none 0 0]⟩ := ⟨⟨Try.t32, _, _, by kernel_rfl, Try.underlying32, rfl, rfl, rfl, rfl, _, rfl, rfl, fun i o n g h => match i, o, n, g, h with
      | 0, o, n, g, h => by cases h; exact ⟨_, Try.t23, _, rfl, rfl, by kernel_rfl, rfl, Try.underlying23, rfl⟩
      | _ + 1, _, _, _, h => by simp at h⟩⟩
theorem ty4 : TyOk Try.prog 4 ⟨.bool, 1, 1, [.bool false]⟩ := ⟨⟨Try.t4, _, _, by kernel_rfl, Try.underlying4, rfl, rfl, rfl, rfl, rfl⟩⟩
theorem ty51 : TyOk Try.prog 51 ⟨.struct [(0, 1, false), (1, 1, false)], 2, 32, [.int .i64 0, .slice none 0 0]⟩ := ⟨⟨Try.t51, _, _, by kernel_rfl, Try.underlying51, rfl, rfl, rfl, rfl, _, rfl, rfl, fun i o n g h => match i, o, n, g, h with
      | 0, o, n, g, h => by cases h; exact ⟨_, Try.t3, _, rfl, rfl, by kernel_rfl, rfl, Try.underlying3, rfl⟩
      | 1, o, n, g, h => by cases h; exact ⟨_, Try.t49, _, rfl, rfl, by kernel_rfl, rfl, Try.underlying49, rfl⟩
      | _ + 2, _, _, _, h => by simp at h⟩⟩
theorem ty28 : TyOk Try.prog 28 ⟨.slice 3, 1, 24, [.slice none 0 0]⟩ := ⟨⟨Try.t28, _, _, by kernel_rfl, Try.underlying28, rfl, rfl, rfl, rfl, rfl⟩⟩
theorem ty108 : TyOk Try.prog 108 ⟨.struct [(0, 1, true), (1, 1, false), (2, 1, false)], 3, 40, [.slice none 0 0, .int .i64 0, .int .i64 0]⟩ := ⟨⟨Try.t108, _, _, by kernel_rfl, Try.underlying108, rfl, rfl, rfl, rfl, _, rfl, rfl, fun i o n g h => match i, o, n, g, h with
      | 0, o, n, g, h => by cases h; exact ⟨_, Try.t32, _, rfl, rfl, by kernel_rfl, rfl, Try.underlying32, rfl⟩
      | 1, o, n, g, h => by cases h; exact ⟨_, Try.t3, _, rfl, rfl, by kernel_rfl, rfl, Try.underlying3, rfl⟩
      | 2, o, n, g, h => by cases h; exact ⟨_, Try.t3, _, rfl, rfl, by kernel_rfl, rfl, Try.underlying3, rfl⟩
      | _ + 3, _, _, _, h => by simp at h⟩⟩
theorem ty23 : TyOk Try.prog 23 ⟨.slice 9, 1, 24, [.slice none 0 0]⟩ := ⟨⟨Try.t23, _, _, by kernel_rfl, Try.underlying23, rfl, rfl, rfl, rfl, rfl⟩⟩
theorem ty121 : TyOk Try.prog 121 ⟨.struct [(0, 1, false), (1, 1, false)], 2, 16, [.int .i64 0, .int .i64 0]⟩ := ⟨⟨Try.t121, _, _, by kernel_rfl, Try.underlying121, rfl, rfl, rfl, rfl, _, rfl, rfl, fun i o n g h => match i, o, n, g, h with
      | 0, o, n, g, h => by cases h; exact ⟨_, Try.t3, _, rfl, rfl, by kernel_rfl, rfl, Try.underlying3, rfl⟩
      | 1, o, n, g, h => by cases h; exact ⟨_, Try.t3, _, rfl, rfl, by kernel_rfl, rfl, Try.underlying3, rfl⟩
      | _ + 2, _, _, _, h => by simp at h⟩⟩
theorem ty77 : TyOk Try.prog 77 ⟨.struct [(0, 1, false), (1, 1, false), (2, 1, false), (3, 1, false)], 4, 64, [.int .i64 0, .int .i64 0, .slice none 0 0, .slice none 0 0]⟩ := ⟨⟨Try.t77, _, _, by kernel_rfl, Try.underlying77, rfl, rfl, rfl, rfl, _, rfl, rfl, fun i o n g h => match i, o, n, g, h with
      | 0, o, n, g, h => by cases h; exact ⟨_, Try.t3, _, rfl, rfl, by kernel_rfl, rfl, Try.underlying3, rfl⟩
      | 1, o, n, g, h => by cases h; exact ⟨_, Try.t3, _, rfl, rfl, by kernel_rfl, rfl, Try.underlying3, rfl⟩
      | 2, o, n, g, h => by cases h; exact ⟨_, Try.t28, _, rfl, rfl, by kernel_rfl, rfl, Try.underlying28, rfl⟩
      | 3, o, n, g, h => by cases h; exact ⟨_, Try.t75, _, rfl, rfl, by kernel_rfl, rfl, Try.underlying75, rfl⟩
      | _ + 4, _, _, _, h => by simp at h⟩⟩
theorem ty30 : TyOk Try.prog 30 ⟨.slice 77, 1, 24, [.slice none 0 0]⟩ := ⟨⟨Try.t30, _, _, by kernel_rfl, Try.underlying30, rfl, rfl, rfl, rfl, rfl⟩⟩
theorem ty64 : TyOk Try.prog 64 ⟨.slice 108, 1, 24, [.slice none 0 0]⟩ := ⟨⟨Try.t64, _, _, by kernel_rfl, Try.underlying64, rfl, rfl, rfl, rfl, rfl⟩⟩
theorem ty150 : TyOk Try.prog 150 ⟨.int .u64, 1, 8, [.int .u64 0]⟩ := ⟨⟨Try.t150, _, _, by kernel_rfl, Try.underlying150, rfl, rfl, rfl, rfl, rfl⟩⟩
theorem ty75 : TyOk Try.prog 75 ⟨.slice 32, 1, 24, [.slice none 0 0]⟩ := ⟨⟨Try.t75, _, _, by kernel_rfl, Try.underlying75, rfl, rfl, rfl, rfl, rfl⟩⟩
theorem ty9 : TyOk Try.prog 9 ⟨.string, 1, 16, [.string ByteArray.empty]⟩ := ⟨⟨Try.t9, _, _, by kernel_rfl, Try.underlying9, rfl, rfl, rfl, rfl, rfl⟩⟩
theorem ty49 : TyOk Try.prog 49 ⟨.slice 121, 1, 24, [.slice none 0 0]⟩ := ⟨⟨Try.t49, _, _, by kernel_rfl, Try.underlying49, rfl, rfl, rfl, rfl, rfl⟩⟩
theorem ty25 : TyOk Try.prog 25 ⟨.struct [(0, 1, false)], 1, 24, [.slice none 0 0]⟩ := ⟨⟨Try.t25, _, _, by kernel_rfl, Try.underlying25, rfl, rfl, rfl, rfl, _, rfl, rfl, fun i o n g h => match i, o, n, g, h with
      | 0, o, n, g, h => by cases h; exact ⟨_, Try.t23, _, rfl, rfl, by kernel_rfl, rfl, Try.underlying23, rfl⟩
      | _ + 1, _, _, _, h => by simp at h⟩⟩
theorem ty98 : TyOk Try.prog 98 ⟨.struct [(0, 1, true), (1, 1, false)], 2, 32, [.slice none 0 0, .int .i64 0]⟩ := ⟨⟨Try.t98, _, _, by kernel_rfl, Try.underlying98, rfl, rfl, rfl, rfl, _, rfl, rfl, fun i o n g h => match i, o, n, g, h with
      | 0, o, n, g, h => by cases h; exact ⟨_, Try.t32, _, rfl, rfl, by kernel_rfl, rfl, Try.underlying32, rfl⟩
      | 1, o, n, g, h => by cases h; exact ⟨_, Try.t3, _, rfl, rfl, by kernel_rfl, rfl, Try.underlying3, rfl⟩
      | _ + 2, _, _, _, h => by simp at h⟩⟩
theorem ty46 : TyOk Try.prog 46 ⟨.struct [(0, 1, false), (1, 1, false)], 2, 32, [.int .i64 0, .slice none 0 0]⟩ := ⟨⟨Try.t46, _, _, by kernel_rfl, Try.underlying46, rfl, rfl, rfl, rfl, _, rfl, rfl, fun i o n g h => match i, o, n, g, h with
      | 0, o, n, g, h => by cases h; exact ⟨_, Try.t3, _, rfl, rfl, by kernel_rfl, rfl, Try.underlying3, rfl⟩
      | 1, o, n, g, h => by cases h; exact ⟨_, Try.t44, _, rfl, rfl, by kernel_rfl, rfl, Try.underlying44, rfl⟩
      | _ + 2, _, _, _, h => by simp at h⟩⟩
theorem ty140 : TyOk Try.prog 140 ⟨.int .u64, 1, 8, [.int .u64 0]⟩ := ⟨⟨Try.t140, _, _, by kernel_rfl, Try.underlying140, rfl, rfl, rfl, rfl, rfl⟩⟩
theorem ty58 : TyOk Try.prog 58 ⟨.slice 98, 1, 24, [.slice none 0 0]⟩ := ⟨⟨Try.t58, _, _, by kernel_rfl, Try.underlying58, rfl, rfl, rfl, rfl, rfl⟩⟩
theorem ty72 : TyOk Try.prog 72 ⟨.struct [(0, 1, false), (1, 1, false), (2, 1, false), (3, 1, false)], 4, 64, [.int .i64 0, .int .i64 0, .slice none 0 0, .slice none 0 0]⟩ := ⟨⟨Try.t72, _, _, by kernel_rfl, Try.underlying72, rfl, rfl, rfl, rfl, _, rfl, rfl, fun i o n g h => match i, o, n, g, h with
      | 0, o, n, g, h => by cases h; exact ⟨_, Try.t3, _, rfl, rfl, by kernel_rfl, rfl, Try.underlying3, rfl⟩
      | 1, o, n, g, h => by cases h; exact ⟨_, Try.t3, _, rfl, rfl, by kernel_rfl, rfl, Try.underlying3, rfl⟩
      | 2, o, n, g, h => by cases h; exact ⟨_, Try.t28, _, rfl, rfl, by kernel_rfl, rfl, Try.underlying28, rfl⟩
      | 3, o, n, g, h => by cases h; exact ⟨_, Try.t70, _, rfl, rfl, by kernel_rfl, rfl, Try.underlying70, rfl⟩
      | _ + 4, _, _, _, h => by simp at h⟩⟩
theorem ty5 : TyOk Try.prog 5 ⟨.int .u8, 1, 1, [.int .u8 0]⟩ := ⟨⟨Try.t5, _, _, by kernel_rfl, Try.underlying5, rfl, rfl, rfl, rfl, rfl⟩⟩
theorem ty147 : TyOk Try.prog 147 ⟨.int .u32, 1, 4, [.int .u32 0]⟩ := ⟨⟨Try.t147, _, _, by kernel_rfl, Try.underlying147, rfl, rfl, rfl, rfl, rfl⟩⟩
theorem ty22 : TyOk Try.prog 22 ⟨.slice 72, 1, 24, [.slice none 0 0]⟩ := ⟨⟨Try.t22, _, _, by kernel_rfl, Try.underlying22, rfl, rfl, rfl, rfl, rfl⟩⟩
theorem ty93 : TyOk Try.prog 93 ⟨.struct [(0, 1, true), (1, 1, false)], 2, 32, [.slice none 0 0, .int .i64 0]⟩ := ⟨⟨Try.t93, _, _, by kernel_rfl, Try.underlying93, rfl, rfl, rfl, rfl, _, rfl, rfl, fun i o n g h => match i, o, n, g, h with
      | 0, o, n, g, h => by cases h; exact ⟨_, Try.t25, _, rfl, rfl, by kernel_rfl, rfl, Try.underlying25, rfl⟩
      | 1, o, n, g, h => by cases h; exact ⟨_, Try.t3, _, rfl, rfl, by kernel_rfl, rfl, Try.underlying3, rfl⟩
      | _ + 2, _, _, _, h => by simp at h⟩⟩
theorem ty70 : TyOk Try.prog 70 ⟨.slice 25, 1, 24, [.slice none 0 0]⟩ := ⟨⟨Try.t70, _, _, by kernel_rfl, Try.underlying70, rfl, rfl, rfl, rfl, rfl⟩⟩
theorem ty55 : TyOk Try.prog 55 ⟨.slice 93, 1, 24, [.slice none 0 0]⟩ := ⟨⟨Try.t55, _, _, by kernel_rfl, Try.underlying55, rfl, rfl, rfl, rfl, rfl⟩⟩
theorem ty44 : TyOk Try.prog 44 ⟨.slice 123, 1, 24, [.slice none 0 0]⟩ := ⟨⟨Try.t44, _, _, by kernel_rfl, Try.underlying44, rfl, rfl, rfl, rfl, rfl⟩⟩
theorem ty123 : TyOk Try.prog 123 ⟨.struct [(0, 1, false), (1, 1, false)], 2, 16, [.int .i64 0, .int .i64 0]⟩ := ⟨⟨Try.t123, _, _, by kernel_rfl, Try.underlying123, rfl, rfl, rfl, rfl, _, rfl, rfl, fun i o n g h => match i, o, n, g, h with
      | 0, o, n, g, h => by cases h; exact ⟨_, Try.t3, _, rfl, rfl, by kernel_rfl, rfl, Try.underlying3, rfl⟩
      | 1, o, n, g, h => by cases h; exact ⟨_, Try.t3, _, rfl, rfl, by kernel_rfl, rfl, Try.underlying3, rfl⟩
      | _ + 2, _, _, _, h => by simp at h⟩⟩
theorem ty81 : TyOk Try.prog 81 ⟨.other, 1, 8, [.nilFunc]⟩ := ⟨⟨Try.t81, _, _, by kernel_rfl, Try.underlying81, rfl, rfl, rfl, rfl, rfl⟩⟩
theorem ty132 : TyOk Try.prog 132 ⟨.slice 5, 1, 24, [.slice none 0 0]⟩ := ⟨⟨Try.t132, _, _, by kernel_rfl, Try.underlying132, rfl, rfl, rfl, rfl, rfl⟩⟩
theorem ty145 : TyOk Try.prog 145 ⟨.other, 1, 8, [.nilFunc]⟩ := ⟨⟨Try.t145, _, _, by kernel_rfl, Try.underlying145, rfl, rfl, rfl, rfl, rfl⟩⟩
theorem ty116 : TyOk Try.prog 116 ⟨.other, 1, 8, [.nilFunc]⟩ := ⟨⟨Try.t116, _, _, by kernel_rfl, Try.underlying116, rfl, rfl, rfl, rfl, rfl⟩⟩
theorem ty130 : TyOk Try.prog 130 ⟨.other, 1, 8, [.nilFunc]⟩ := ⟨⟨Try.t130, _, _, by kernel_rfl, Try.underlying130, rfl, rfl, rfl, rfl, rfl⟩⟩
theorem ty137 : TyOk Try.prog 137 ⟨.other, 1, 8, [.nilFunc]⟩ := ⟨⟨Try.t137, _, _, by kernel_rfl, Try.underlying137, rfl, rfl, rfl, rfl, rfl⟩⟩
theorem mixed : Try.prog.follows .mixedOrders = true := by kernel_rfl
theorem Γt_ok : ∀ x ∈ Γt, TyOk Try.prog x.1 x.2 := by
  intro x hx
  simp only [Γt, List.mem_cons, List.not_mem_nil, or_false] at hx
  rcases hx with rfl | rfl | rfl | rfl | rfl | rfl | rfl | rfl | rfl | rfl | rfl | rfl | rfl | rfl | rfl | rfl | rfl | rfl | rfl | rfl | rfl | rfl | rfl | rfl | rfl | rfl | rfl | rfl | rfl | rfl | rfl | rfl | rfl | rfl | rfl
  · exact ty3
  · exact ty32
  · exact ty4
  · exact ty51
  · exact ty28
  · exact ty108
  · exact ty23
  · exact ty121
  · exact ty77
  · exact ty30
  · exact ty64
  · exact ty150
  · exact ty75
  · exact ty9
  · exact ty49
  · exact ty25
  · exact ty98
  · exact ty46
  · exact ty140
  · exact ty58
  · exact ty72
  · exact ty5
  · exact ty147
  · exact ty22
  · exact ty93
  · exact ty70
  · exact ty55
  · exact ty44
  · exact ty123
  · exact ty81
  · exact ty132
  · exact ty145
  · exact ty116
  · exact ty130
  · exact ty137
def Γ : Env := { ty := Γt, io := [(18, [0]), (19, [0]), (20, [0]), (36, [0]), (37, [0]), (42, [0]), (56, [0]), (57, [0]), (76, [0])] }
theorem envOk : EnvOk Try.prog Γ := envOk_of Γt_ok
abbrev FO (f : Nat) (args outs : List Arg) (res : Arg) : Prop := FOk Try.prog f args outs res
abbrev FI (f : Nat) (fn : Func) : Prop := FnIs Try.prog f (fn.body.getD .skip) fn.results.toList fn.ntmps
end Go.Proofs.Ytleljkfmeomnpaa
