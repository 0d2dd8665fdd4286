/- The table of types and of functions of this translation: no statement of the seat is proved here. No condition. -/
import Derived.Test.YtgcnbfplihjelaaVc
import Derived.Test.YtgcnbfplihjelaaChecked
import Derived.KernelRfl
set_option linter.all false
namespace Go.Proofs.Ytgcnbfplihjelaa
open Go.Vs Go.Proofs
/-- The types of this program, as a small table. -/
def Γt : List (Nat × TyI) := [
  (3, ⟨.int .i64, 1, 8, [.int .i64 0]⟩),
  (29, ⟨.struct [(0, 3, true), (3, 1, false), (4, 1, false), (5, 1, false), (6, 1, false), (7, 1, false), (8, 1, false)], 9, 104, [.int .i64 0, .int .i64 0, .slice none 0 0, .int .i64 0, .slice none 0 0, .int .i64 0, .int .i64 0, .int .i64 0, .int .i64 0]⟩),
  (26, ⟨.struct [(0, 1, false), (1, 1, false), (2, 1, false)], 3, 40, [.int .i64 0, .int .i64 0, .slice none 0 0]⟩),
  (4, ⟨.bool, 1, 1, [.bool false]⟩),
  (57, ⟨.struct [(0, 1, false)], 1, 24, [.slice none 0 0]⟩),
  (24, ⟨.slice 3, 1, 24, [.slice none 0 0]⟩),
  (22, ⟨.slice 5, 1, 24, [.slice none 0 0]⟩),
  (49, ⟨.slice 9, 1, 24, [.slice none 0 0]⟩),
  (27, ⟨.slice 70, 1, 24, [.slice none 0 0]⟩),
  (93, ⟨.struct [(0, 1, false), (1, 1, true), (2, 1, false)], 3, 40, [.int .i64 0, .slice none 0 0, .int .i64 0]⟩),
  (54, ⟨.slice 93, 1, 24, [.slice none 0 0]⟩),
  (9, ⟨.string, 1, 16, [.string ByteArray.empty]⟩),
  (70, ⟨.struct [(0, 1, false)], 1, 24, [.slice none 0 0]⟩),
  (5, ⟨.int .u8, 1, 1, [.int .u8 0]⟩),
  (51, ⟨.struct [(0, 1, false)], 1, 24, [.slice none 0 0]⟩),
  (103, ⟨.struct [(0, 1, false), (1, 1, false), (2, 1, false)], 3, 40, [.slice none 0 0, .int .i64 0, .int .i64 0]⟩),
  (90, ⟨.struct [(0, 1, false), (1, 1, true), (2, 1, false)], 3, 40, [.int .i64 0, .slice none 0 0, .int .i64 0]⟩),
  (48, ⟨.slice 90, 1, 24, [.slice none 0 0]⟩),
  (75, ⟨.int .u64, 1, 8, [.int .u64 0]⟩),
  (99, ⟨.other, 1, 8, [.nilFunc]⟩),
  (105, ⟨.other, 1, 8, [.nilFunc]⟩)]
theorem ty3 : TyOk Try.prog 3 ⟨.int .i64, 1, 8, [.int .i64 0]⟩ := ⟨⟨Try.t3, _, _, by kernel_rfl, Try.underlying3, rfl, rfl, rfl, rfl, rfl⟩⟩
theorem ty29 : TyOk Try.prog 29 ⟨.struct [(0, 3, true), (3, 1, false), (4, 1, false), (5, 1, false), (6, 1, false), (7, 1, false), (8, 1, false)], 9, 104, [.int .i64 0, .int .i64 0, .slice none 0 0, .int .i64 0, .slice none 0 0, .int .i64 0, .int .i64 0, .int .i64 0, .int .i64 0]⟩ := ⟨⟨Try.t29, _, _, by kernel_rfl, Try.underlying29, rfl, rfl, rfl, rfl, _, rfl, rfl, fun i o n g h => match i, o, n, g, h with
      | 0, o, n, g, h => by cases h; exact ⟨_, Try.t26, _, rfl, rfl, by kernel_rfl, rfl, Try.underlying26, rfl⟩
      | 1, o, n, g, h => by cases h; exact ⟨_, Try.t3, _, rfl, rfl, by kernel_rfl, rfl, Try.underlying3, rfl⟩
      | 2, o, n, g, h => by cases h; exact ⟨_, Try.t27, _, rfl, rfl, by kernel_rfl, rfl, Try.underlying27, rfl⟩
      | 3, o, n, g, h => by cases h; exact ⟨_, Try.t3, _, rfl, rfl, by kernel_rfl, rfl, Try.underlying3, rfl⟩
      | 4, o, n, g, h => by cases h; exact ⟨_, Try.t3, _, rfl, rfl, by kernel_rfl, rfl, Try.underlying3, rfl⟩
      | 5, o, n, g, h => by cases h; exact ⟨_, Try.t3, _, rfl, rfl, by kernel_rfl, rfl, Try.underlying3, rfl⟩
      | 6, o, n, g, h => by cases h; exact ⟨_, Try.t3, _, rfl, rfl, by kernel_rfl, rfl, Try.underlying3, rfl⟩
      | _ + 7, _, _, _, h => by simp at h⟩⟩
theorem ty26 : TyOk Try.prog 26 ⟨.struct [(0, 1, false), (1, 1, false), (2, 1, false)], 3, 40, [.int .i64 0, .int .i64 0, .slice none 0 0]⟩ := ⟨⟨Try.t26, _, _, by kernel_rfl, Try.underlying26, rfl, rfl, rfl, rfl, _, rfl, rfl, fun i o n g h => match i, o, n, g, h with
      | 0, o, n, g, h => by cases h; exact ⟨_, Try.t3, _, rfl, rfl, by kernel_rfl, rfl, Try.underlying3, rfl⟩
      | 1, o, n, g, h => by cases h; exact ⟨_, Try.t3, _, rfl, rfl, by kernel_rfl, rfl, Try.underlying3, rfl⟩
      | 2, o, n, g, h => by cases h; exact ⟨_, Try.t24, _, rfl, rfl, by kernel_rfl, rfl, Try.underlying24, rfl⟩
      | _ + 3, _, _, _, h => by simp at h⟩⟩
theorem ty4 : TyOk Try.prog 4 ⟨.bool, 1, 1, [.bool false]⟩ := ⟨⟨Try.t4, _, _, by kernel_rfl, Try.underlying4, rfl, rfl, rfl, rfl, rfl⟩⟩
theorem ty57 : TyOk Try.prog 57 ⟨.struct [(0, 1, false)], 1, 24, [.slice none 0 0]⟩ := ⟨⟨Try.t57, _, _, by kernel_rfl, Try.underlying57, rfl, rfl, rfl, rfl, _, rfl, rfl, fun i o n g h => match i, o, n, g, h with
      | 0, o, n, g, h => by cases h; exact ⟨_, Try.t49, _, rfl, rfl, by kernel_rfl, rfl, Try.underlying49, rfl⟩
      | _ + 1, _, _, _, h => by simp at h⟩⟩
theorem ty24 : TyOk Try.prog 24 ⟨.slice 3, 1, 24, [.slice none 0 0]⟩ := ⟨⟨Try.t24, _, _, by kernel_rfl, Try.underlying24, rfl, rfl, rfl, rfl, rfl⟩⟩
theorem ty22 : TyOk Try.prog 22 ⟨.slice 5, 1, 24, [.slice none 0 0]⟩ := ⟨⟨Try.t22, _, _, by kernel_rfl, Try.underlying22, rfl, rfl, rfl, rfl, rfl⟩⟩
theorem ty49 : TyOk Try.prog 49 ⟨.slice 9, 1, 24, [.slice none 0 0]⟩ := ⟨⟨Try.t49, _, _, by kernel_rfl, Try.underlying49, rfl, rfl, rfl, rfl, rfl⟩⟩
theorem ty27 : TyOk Try.prog 27 ⟨.slice 70, 1, 24, [.slice none 0 0]⟩ := ⟨⟨Try.t27, _, _, by kernel_rfl, Try.underlying27, rfl, rfl, rfl, rfl, rfl⟩⟩
theorem ty93 : TyOk Try.prog 93 ⟨.struct [(0, 1, false), (1, 1, true), (2, 1, false)], 3, 40, [.int .i64 0, .slice none 0 0, .int .i64 0]⟩ := ⟨⟨Try.t93, _, _, by kernel_rfl, Try.underlying93, rfl, rfl, rfl, rfl, _, rfl, rfl, fun i o n g h => match i, o, n, g, h with
      | 0, o, n, g, h => by cases h; exact ⟨_, Try.t3, _, rfl, rfl, by kernel_rfl, rfl, Try.underlying3, rfl⟩
      | 1, o, n, g, h => by cases h; exact ⟨_, Try.t57, _, rfl, rfl, by kernel_rfl, rfl, Try.underlying57, rfl⟩
      | 2, o, n, g, h => by cases h; exact ⟨_, Try.t3, _, rfl, rfl, by kernel_rfl, rfl, Try.underlying3, rfl⟩
      | _ + 3, _, _, _, h => by simp at h⟩⟩
theorem ty54 : TyOk Try.prog 54 ⟨.slice 93, 1, 24, [.slice none 0 0]⟩ := ⟨⟨Try.t54, _, _, by kernel_rfl, Try.underlying54, rfl, rfl, rfl, rfl, rfl⟩⟩
theorem ty9 : TyOk Try.prog 9 ⟨.string, 1, 16, [.string ByteArray.empty]⟩ := ⟨⟨Try.t9, _, _, by kernel_rfl, Try.underlying9, rfl, rfl, rfl, rfl, rfl⟩⟩
theorem ty70 : TyOk Try.prog 70 ⟨.struct [(0, 1, false)], 1, 24, [.slice none 0 0]⟩ := ⟨⟨Try.t70, _, _, by kernel_rfl, Try.underlying70, rfl, rfl, rfl, rfl, _, rfl, rfl, fun i o n g h => match i, o, n, g, h with
      | 0, o, n, g, h => by cases h; exact ⟨_, Try.t22, _, rfl, rfl, by kernel_rfl, rfl, Try.underlying22, rfl⟩
      | _ + 1, _, _, _, h => by simp at h⟩⟩
theorem ty5 : TyOk Try.prog 5 ⟨.int .u8, 1, 1, [.int .u8 0]⟩ := ⟨⟨Try.t5, _, _, by kernel_rfl, Try.underlying5, rfl, rfl, rfl, rfl, rfl⟩⟩
theorem ty51 : TyOk Try.prog 51 ⟨.struct [(0, 1, false)], 1, 24, [.slice none 0 0]⟩ := ⟨⟨Try.t51, _, _, by kernel_rfl, Try.underlying51, rfl, rfl, rfl, rfl, _, rfl, rfl, fun i o n g h => match i, o, n, g, h with
      | 0, o, n, g, h => by cases h; exact ⟨_, Try.t49, _, rfl, rfl, by kernel_rfl, rfl, Try.underlying49, rfl⟩
      | _ + 1, _, _, _, h => by simp at h⟩⟩
theorem ty103 : TyOk Try.prog 103 ⟨.struct [(0, 1, false), (1, 1, false), (2, 1, false)], 3, 40, [.slice none 0 0, .int .i64 0, .int .i64 0]⟩ := ⟨⟨Try.t103, _, _, by kernel_rfl, Try.underlying103, rfl, rfl, rfl, rfl, _, rfl, rfl, fun i o n g h => match i, o, n, g, h with
      | 0, o, n, g, h => by cases h; exact ⟨_, Try.t22, _, rfl, rfl, by kernel_rfl, rfl, Try.underlying22, rfl⟩
      | 1, o, n, g, h => by cases h; exact ⟨_, Try.t3, _, rfl, rfl, by kernel_rfl, rfl, Try.underlying3, rfl⟩
      | 2, o, n, g, h => by cases h; exact ⟨_, Try.t3, _, rfl, rfl, by kernel_rfl, rfl, Try.underlying3, rfl⟩
      | _ + 3, _, _, _, h => by simp at h⟩⟩
theorem ty90 : TyOk Try.prog 90 ⟨.struct [(0, 1, false), (1, 1, true), (2, 1, false)], 3, 40, [.int .i64 0, .slice none 0 0, .int .i64 0]⟩ := ⟨⟨Try.t90, _, _, by kernel_rfl, Try.underlying90, rfl, rfl, rfl, rfl, _, rfl, rfl, fun i o n g h => match i, o, n, g, h with
      | 0, o, n, g, h => by cases h; exact ⟨_, Try.t3, _, rfl, rfl, by kernel_rfl, rfl, Try.underlying3, rfl⟩
      | 1, o, n, g, h => by cases h; exact ⟨_, Try.t51, _, rfl, rfl, by kernel_rfl, rfl, Try.underlying51, rfl⟩
      | 2, o, n, g, h => by cases h; exact ⟨_, Try.t3, _, rfl, rfl, by kernel_rfl, rfl, Try.underlying3, rfl⟩
      | _ + 3, _, _, _, h => by simp at h⟩⟩
theorem ty48 : TyOk Try.prog 48 ⟨.slice 90, 1, 24, [.slice none 0 0]⟩ := ⟨⟨Try.t48, _, _, by kernel_rfl, Try.underlying48, rfl, rfl, rfl, rfl, rfl⟩⟩
theorem ty75 : TyOk Try.prog 75 ⟨.int .u64, 1, 8, [.int .u64 0]⟩ := ⟨⟨Try.t75, _, _, by kernel_rfl, Try.underlying75, rfl, rfl, rfl, rfl, rfl⟩⟩
theorem ty99 : TyOk Try.prog 99 ⟨.other, 1, 8, [.nilFunc]⟩ := ⟨⟨Try.t99, _, _, by kernel_rfl, Try.underlying99, rfl, rfl, rfl, rfl, rfl⟩⟩
theorem ty105 : TyOk Try.prog 105 ⟨.other, 1, 8, [.nilFunc]⟩ := ⟨⟨Try.t105, _, _, by kernel_rfl, Try.underlying105, rfl, rfl, rfl, rfl, rfl⟩⟩
theorem mixed : Try.prog.follows .mixedOrders = true := by kernel_rfl
theorem Γt_ok : ∀ x ∈ Γt, TyOk Try.prog x.1 x.2 := by
  intro x hx
  simp only [Γt, List.mem_cons, List.not_mem_nil, or_false] at hx
  rcases hx with rfl | rfl | rfl | rfl | rfl | rfl | rfl | rfl | rfl | rfl | rfl | rfl | rfl | rfl | rfl | rfl | rfl | rfl | rfl | rfl | rfl
  · exact ty3
  · exact ty29
  · exact ty26
  · exact ty4
  · exact ty57
  · exact ty24
  · exact ty22
  · exact ty49
  · exact ty27
  · exact ty93
  · exact ty54
  · exact ty9
  · exact ty70
  · exact ty5
  · exact ty51
  · exact ty103
  · exact ty90
  · exact ty48
  · exact ty75
  · exact ty99
  · exact ty105
def Γ : Env := { ty := Γt, io := [(41, [0]), (42, [0]), (45, [0]), (59, [0]), (60, [0]), (62, [0]), (77, [0]), (83, [0]), (85, [0]), (96, [0]), (97, [0]), (98, [0]), (100, [0]), (108, [0]), (113, [0])], esc := [103] }
theorem envOk : EnvOk Try.prog Γ := envOk_of Γt_ok
abbrev FO (f : Nat) (args outs : List Arg) (res : Arg) : Prop := FOk Try.prog f args outs res
abbrev FI (f : Nat) (fn : Func) : Prop := FnIs Try.prog f (fn.body.getD .skip) fn.results.toList fn.ntmps
end Go.Proofs.Ytgcnbfplihjelaa
