/- The table of types and of functions of this translation: no statement of the seat is proved here. No condition. -/
import Derived.Test.YtcjolkhjjblnaaaVc
import Derived.Test.YtcjolkhjjblnaaaChecked
import Derived.KernelRfl
set_option linter.all false
namespace Go.Proofs.Ytcjolkhjjblnaaa
open Go.Vs Go.Proofs
/-- The types of this program, as a small table. -/
def Γt : List (Nat × TyI) := [
  (3, ⟨.int .i64, 1, 8, [.int .i64 0]⟩),
  (42, ⟨.struct [(0, 3, true), (3, 1, false), (4, 1, false), (5, 1, false), (6, 1, false), (7, 1, false), (8, 1, false)], 9, 104, [.int .i64 0, .int .i64 0, .slice none 0 0, .int .i64 0, .slice none 0 0, .int .i64 0, .int .i64 0, .int .i64 0, .int .i64 0]⟩),
  (26, ⟨.struct [(0, 1, false)], 1, 24, [.slice none 0 0]⟩),
  (39, ⟨.struct [(0, 1, false), (1, 1, false), (2, 1, false)], 3, 40, [.int .i64 0, .int .i64 0, .slice none 0 0]⟩),
  (4, ⟨.bool, 1, 1, [.bool false]⟩),
  (22, ⟨.slice 5, 1, 24, [.slice none 0 0]⟩),
  (37, ⟨.slice 3, 1, 24, [.slice none 0 0]⟩),
  (30, ⟨.struct [(0, 1, true), (1, 1, false)], 2, 32, [.slice none 0 0, .int .i64 0]⟩),
  (24, ⟨.slice 9, 1, 24, [.slice none 0 0]⟩),
  (40, ⟨.slice 86, 1, 24, [.slice none 0 0]⟩),
  (5, ⟨.int .u8, 1, 1, [.int .u8 0]⟩),
  (9, ⟨.string, 1, 16, [.string ByteArray.empty]⟩),
  (86, ⟨.struct [(0, 1, false)], 1, 24, [.slice none 0 0]⟩),
  (36, ⟨.slice 30, 1, 24, [.slice none 0 0]⟩),
  (122, ⟨.struct [(0, 1, false), (1, 1, false), (2, 1, false)], 3, 40, [.slice none 0 0, .int .i64 0, .int .i64 0]⟩),
  (61, ⟨.slice 26, 1, 24, [.slice none 0 0]⟩),
  (91, ⟨.int .u64, 1, 8, [.int .u64 0]⟩),
  (136, ⟨.slice 37, 1, 24, [.slice none 0 0]⟩),
  (120, ⟨.other, 1, 8, [.nilFunc]⟩),
  (124, ⟨.other, 1, 8, [.nilFunc]⟩),
  (135, ⟨.other, 1, 8, [.nilFunc]⟩)]
theorem ty3 : TyOk Try.prog 3 ⟨.int .i64, 1, 8, [.int .i64 0]⟩ := ⟨⟨Try.t3, _, _, by kernel_rfl, Try.underlying3, rfl, rfl, rfl, rfl, rfl⟩⟩
theorem ty42 : TyOk Try.prog 42 ⟨.struct [(0, 3, true), (3, 1, false), (4, 1, false), (5, 1, false), (6, 1, false), (7, 1, false), (8, 1, false)], 9, 104, [.int .i64 0, .int .i64 0, .slice none 0 0, .int .i64 0, .slice none 0 0, .int .i64 0, .int .i64 0, .int .i64 0, .int .i64 0]⟩ := ⟨⟨Try.t42, _, _, by kernel_rfl, Try.underlying42, rfl, rfl, rfl, rfl, _, rfl, rfl, fun i o n g h => match i, o, n, g, h with
      | 0, o, n, g, h => by cases h; exact ⟨_, Try.t39, _, rfl, rfl, by kernel_rfl, rfl, Try.underlying39, rfl⟩
      | 1, o, n, g, h => by cases h; exact ⟨_, Try.t3, _, rfl, rfl, by kernel_rfl, rfl, Try.underlying3, rfl⟩
      | 2, o, n, g, h => by cases h; exact ⟨_, Try.t40, _, rfl, rfl, by kernel_rfl, rfl, Try.underlying40, rfl⟩
      | 3, o, n, g, h => by cases h; exact ⟨_, Try.t3, _, rfl, rfl, by kernel_rfl, rfl, Try.underlying3, rfl⟩
      | 4, o, n, g, h => by cases h; exact ⟨_, Try.t3, _, rfl, rfl, by kernel_rfl, rfl, Try.underlying3, rfl⟩
      | 5, o, n, g, h => by cases h; exact ⟨_, Try.t3, _, rfl, rfl, by kernel_rfl, rfl, Try.underlying3, rfl⟩
      | 6, o, n, g, h => by cases h; exact ⟨_, Try.t3, _, rfl, rfl, by kernel_rfl, rfl, Try.underlying3, rfl⟩
      | _ + 7, _, _, _, h => by simp at h⟩⟩
theorem ty26 : TyOk Try.prog 26 ⟨.struct [(0, 1, false)], 1, 24, [.slice none 0 0]⟩ := ⟨⟨Try.t26, _, _, by kernel_rfl, Try.underlying26, rfl, rfl, rfl, rfl, _, rfl, rfl, fun i o n g h => match i, o, n, g, h with
      | 0, o, n, g, h => by cases h; exact ⟨_, Try.t24, _, rfl, rfl, by kernel_rfl, rfl, Try.underlying24, rfl⟩
      | _ + 1, _, _, _, h => by simp at h⟩⟩
theorem ty39 : TyOk Try.prog 39 ⟨.struct [(0, 1, false), (1, 1, false), (2, 1, false)], 3, 40, [.int .i64 0, .int .i64 0, .slice none 0 0]⟩ := ⟨⟨Try.t39, _, _, by kernel_rfl, Try.underlying39, rfl, rfl, rfl, rfl, _, rfl, rfl, fun i o n g h => match i, o, n, g, h with
      | 0, o, n, g, h => by cases h; exact ⟨_, Try.t3, _, rfl, rfl, by kernel_rfl, rfl, Try.underlying3, rfl⟩
      | 1, o, n, g, h => by cases h; exact ⟨_, Try.t3, _, rfl, rfl, by kernel_rfl, rfl, Try.underlying3, rfl⟩
      | 2, o, n, g, h => by cases h; exact ⟨_, Try.t37, _, rfl, rfl, by kernel_rfl, rfl, Try.underlying37, rfl⟩
      | _ + 3, _, _, _, h => by simp at h⟩⟩
theorem ty4 : TyOk Try.prog 4 ⟨.bool, 1, 1, [.bool false]⟩ := ⟨⟨Try.t4, _, _, by kernel_rfl, Try.underlying4, rfl, rfl, rfl, rfl, rfl⟩⟩
theorem ty22 : TyOk Try.prog 22 ⟨.slice 5, 1, 24, [.slice none 0 0]⟩ := ⟨⟨Try.t22, _, _, by kernel_rfl, Try.underlying22, rfl, rfl, rfl, rfl, rfl⟩⟩
theorem ty37 : TyOk Try.prog 37 ⟨.slice 3, 1, 24, [.slice none 0 0]⟩ := ⟨⟨Try.t37, _, _, by kernel_rfl, Try.underlying37, rfl, rfl, rfl, rfl, rfl⟩⟩
theorem ty30 : TyOk Try.prog 30 ⟨.struct [(0, 1, true), (1, 1, false)], 2, 32, [.slice none 0 0, .int .i64 0]⟩ := ⟨⟨Try.t30, _, _, by kernel_rfl, Try.underlying30, rfl, rfl, rfl, rfl, _, rfl, rfl, fun i o n g h => match i, o, n, g, h with
      | 0, o, n, g, h => by cases h; exact ⟨_, Try.t26, _, rfl, rfl, by kernel_rfl, rfl, Try.underlying26, rfl⟩
      | 1, o, n, g, h => by cases h; exact ⟨_, Try.t3, _, rfl, rfl, by kernel_rfl, rfl, Try.underlying3, rfl⟩
      | _ + 2, _, _, _, h => by simp at h⟩⟩
theorem ty24 : TyOk Try.prog 24 ⟨.slice 9, 1, 24, [.slice none 0 0]⟩ := ⟨⟨Try.t24, _, _, by kernel_rfl, Try.underlying24, rfl, rfl, rfl, rfl, rfl⟩⟩
theorem ty40 : TyOk Try.prog 40 ⟨.slice 86, 1, 24, [.slice none 0 0]⟩ := ⟨⟨Try.t40, _, _, by kernel_rfl, Try.underlying40, rfl, rfl, rfl, rfl, rfl⟩⟩
theorem ty5 : TyOk Try.prog 5 ⟨.int .u8, 1, 1, [.int .u8 0]⟩ := ⟨⟨Try.t5, _, _, by kernel_rfl, Try.underlying5, rfl, rfl, rfl, rfl, rfl⟩⟩
theorem ty9 : TyOk Try.prog 9 ⟨.string, 1, 16, [.string ByteArray.empty]⟩ := ⟨⟨Try.t9, _, _, by kernel_rfl, Try.underlying9, rfl, rfl, rfl, rfl, rfl⟩⟩
theorem ty86 : TyOk Try.prog 86 ⟨.struct [(0, 1, false)], 1, 24, [.slice none 0 0]⟩ := ⟨⟨Try.t86, _, _, by kernel_rfl, Try.underlying86, rfl, rfl, rfl, rfl, _, rfl, rfl, fun i o n g h => match i, o, n, g, h with
      | 0, o, n, g, h => by cases h; exact ⟨_, Try.t22, _, rfl, rfl, by kernel_rfl, rfl, Try.underlying22, rfl⟩
      | _ + 1, _, _, _, h => by simp at h⟩⟩
theorem ty36 : TyOk Try.prog 36 ⟨.slice 30, 1, 24, [.slice none 0 0]⟩ := ⟨⟨Try.t36, _, _, by kernel_rfl, Try.underlying36, rfl, rfl, rfl, rfl, rfl⟩⟩
theorem ty122 : TyOk Try.prog 122 ⟨.struct [(0, 1, false), (1, 1, false), (2, 1, false)], 3, 40, [.slice none 0 0, .int .i64 0, .int .i64 0]⟩ := ⟨⟨Try.t122, _, _, by kernel_rfl, Try.underlying122, rfl, rfl, rfl, rfl, _, rfl, rfl, fun i o n g h => match i, o, n, g, h with
      | 0, o, n, g, h => by cases h; exact ⟨_, Try.t22, _, rfl, rfl, by kernel_rfl, rfl, Try.underlying22, rfl⟩
      | 1, o, n, g, h => by cases h; exact ⟨_, Try.t3, _, rfl, rfl, by kernel_rfl, rfl, Try.underlying3, rfl⟩
      | 2, o, n, g, h => by cases h; exact ⟨_, Try.t3, _, rfl, rfl, by kernel_rfl, rfl, Try.underlying3, rfl⟩
      | _ + 3, _, _, _, h => by simp at h⟩⟩
theorem ty61 : TyOk Try.prog 61 ⟨.slice 26, 1, 24, [.slice none 0 0]⟩ := ⟨⟨Try.t61, _, _, by kernel_rfl, Try.underlying61, rfl, rfl, rfl, rfl, rfl⟩⟩
theorem ty91 : TyOk Try.prog 91 ⟨.int .u64, 1, 8, [.int .u64 0]⟩ := ⟨⟨Try.t91, _, _, by kernel_rfl, Try.underlying91, rfl, rfl, rfl, rfl, rfl⟩⟩
theorem ty136 : TyOk Try.prog 136 ⟨.slice 37, 1, 24, [.slice none 0 0]⟩ := ⟨⟨Try.t136, _, _, by kernel_rfl, Try.underlying136, rfl, rfl, rfl, rfl, rfl⟩⟩
theorem ty120 : TyOk Try.prog 120 ⟨.other, 1, 8, [.nilFunc]⟩ := ⟨⟨Try.t120, _, _, by kernel_rfl, Try.underlying120, rfl, rfl, rfl, rfl, rfl⟩⟩
theorem ty124 : TyOk Try.prog 124 ⟨.other, 1, 8, [.nilFunc]⟩ := ⟨⟨Try.t124, _, _, by kernel_rfl, Try.underlying124, rfl, rfl, rfl, rfl, rfl⟩⟩
theorem ty135 : TyOk Try.prog 135 ⟨.other, 1, 8, [.nilFunc]⟩ := ⟨⟨Try.t135, _, _, by kernel_rfl, Try.underlying135, rfl, rfl, rfl, rfl, rfl⟩⟩
theorem mixed : Try.prog.follows .mixedOrders = true := by kernel_rfl
theorem Γt_ok : ∀ x ∈ Γt, TyOk Try.prog x.1 x.2 := by
  intro x hx
  simp only [Γt, List.mem_cons, List.not_mem_nil, or_false] at hx
  rcases hx with rfl | rfl | rfl | rfl | rfl | rfl | rfl | rfl | rfl | rfl | rfl | rfl | rfl | rfl | rfl | rfl | rfl | rfl | rfl | rfl | rfl
  · exact ty3
  · exact ty42
  · exact ty26
  · exact ty39
  · exact ty4
  · exact ty22
  · exact ty37
  · exact ty30
  · exact ty24
  · exact ty40
  · exact ty5
  · exact ty9
  · exact ty86
  · exact ty36
  · exact ty122
  · exact ty61
  · exact ty91
  · exact ty136
  · exact ty120
  · exact ty124
  · exact ty135
def Γ : Env := { ty := Γt, io := [(63, [0]), (77, [0]), (78, [0]), (80, [0]), (89, [0]), (90, [0]), (91, [0]), (92, [0]), (102, [0]), (103, [0]), (104, [0]), (107, [0]), (116, [0]), (125, [0]), (126, [0])], esc := [122] }
theorem envOk : EnvOk Try.prog Γ := envOk_of Γt_ok
abbrev FO (f : Nat) (args outs : List Arg) (res : Arg) : Prop := FOk Try.prog f args outs res
abbrev FI (f : Nat) (fn : Func) : Prop := FnIs Try.prog f (fn.body.getD .skip) fn.results.toList fn.ntmps
end Go.Proofs.Ytcjolkhjjblnaaa
