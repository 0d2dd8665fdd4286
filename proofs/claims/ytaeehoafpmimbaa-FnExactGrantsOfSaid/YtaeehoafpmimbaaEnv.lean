/- The table of types and of functions of this translation: no statement of the seat is proved here. No condition. -/
import Derived.Test.YtaeehoafpmimbaaVc
import Derived.Test.YtaeehoafpmimbaaChecked
import Derived.KernelRfl
set_option linter.all false
namespace Go.Proofs.Ytaeehoafpmimbaa
open Go.Vs Go.Proofs
/-- The types of this program, as a small table. -/
def Γt : List (Nat × TyI) := [
  (3, ⟨.int .i64, 1, 8, [.int .i64 0]⟩),
  (31, ⟨.struct [(0, 1, false)], 1, 24, [.slice none 0 0]⟩),
  (53, ⟨.struct [(0, 1, false), (1, 1, true), (2, 1, false)], 3, 40, [.int .i64 0, .slice none 0 0, .int .i64 0]⟩),
  (4, ⟨.bool, 1, 1, [.bool false]⟩),
  (23, ⟨.slice 9, 1, 24, [.slice none 0 0]⟩),
  (29, ⟨.slice 53, 1, 24, [.slice none 0 0]⟩),
  (9, ⟨.string, 1, 16, [.string ByteArray.empty]⟩),
  (40, ⟨.slice 3, 1, 24, [.slice none 0 0]⟩),
  (25, ⟨.struct [(0, 1, false)], 1, 24, [.slice none 0 0]⟩),
  (74, ⟨.struct [(0, 1, true), (1, 1, false)], 2, 32, [.slice none 0 0, .int .i64 0]⟩),
  (48, ⟨.struct [(0, 1, false), (1, 1, true), (2, 1, false)], 3, 40, [.int .i64 0, .slice none 0 0, .int .i64 0]⟩),
  (58, ⟨.slice 74, 1, 24, [.slice none 0 0]⟩),
  (5, ⟨.int .u8, 1, 1, [.int .u8 0]⟩),
  (22, ⟨.slice 48, 1, 24, [.slice none 0 0]⟩),
  (86, ⟨.slice 5, 1, 24, [.slice none 0 0]⟩),
  (93, ⟨.slice 40, 1, 24, [.slice none 0 0]⟩),
  (66, ⟨.other, 1, 8, [.nilFunc]⟩),
  (79, ⟨.other, 1, 8, [.nilFunc]⟩)]
theorem ty3 : TyOk Try.prog 3 ⟨.int .i64, 1, 8, [.int .i64 0]⟩ := ⟨⟨Try.t3, _, _, by kernel_rfl, Try.underlying3, rfl, rfl, rfl, rfl, rfl⟩⟩
theorem ty31 : TyOk Try.prog 31 ⟨.struct [(0, 1, false)], 1, 24, [.slice none 0 0]⟩ := ⟨⟨Try.t31, _, _, by kernel_rfl, Try.underlying31, rfl, rfl, rfl, rfl, _, rfl, rfl, fun i o n g h => match i, o, n, g, h with
      | 0, o, n, g, h => by cases h; exact ⟨_, Try.t23, _, rfl, rfl, by kernel_rfl, rfl, Try.underlying23, rfl⟩
      | _ + 1, _, _, _, h => by simp at h⟩⟩
theorem ty53 : TyOk Try.prog 53 ⟨.struct [(0, 1, false), (1, 1, true), (2, 1, false)], 3, 40, [.int .i64 0, .slice none 0 0, .int .i64 0]⟩ := ⟨⟨Try.t53, _, _, by kernel_rfl, Try.underlying53, rfl, rfl, rfl, rfl, _, rfl, rfl, fun i o n g h => match i, o, n, g, h with
      | 0, o, n, g, h => by cases h; exact ⟨_, Try.t3, _, rfl, rfl, by kernel_rfl, rfl, Try.underlying3, rfl⟩
      | 1, o, n, g, h => by cases h; exact ⟨_, Try.t31, _, rfl, rfl, by kernel_rfl, rfl, Try.underlying31, rfl⟩
      | 2, o, n, g, h => by cases h; exact ⟨_, Try.t3, _, rfl, rfl, by kernel_rfl, rfl, Try.underlying3, rfl⟩
      | _ + 3, _, _, _, h => by simp at h⟩⟩
theorem ty4 : TyOk Try.prog 4 ⟨.bool, 1, 1, [.bool false]⟩ := ⟨⟨Try.t4, _, _, by kernel_rfl, Try.underlying4, rfl, rfl, rfl, rfl, rfl⟩⟩
theorem ty23 : TyOk Try.prog 23 ⟨.slice 9, 1, 24, [.slice none 0 0]⟩ := ⟨⟨Try.t23, _, _, by kernel_rfl, Try.underlying23, rfl, rfl, rfl, rfl, rfl⟩⟩
theorem ty29 : TyOk Try.prog 29 ⟨.slice 53, 1, 24, [.slice none 0 0]⟩ := ⟨⟨Try.t29, _, _, by kernel_rfl, Try.underlying29, rfl, rfl, rfl, rfl, rfl⟩⟩
theorem ty9 : TyOk Try.prog 9 ⟨.string, 1, 16, [.string ByteArray.empty]⟩ := ⟨⟨Try.t9, _, _, by kernel_rfl, Try.underlying9, rfl, rfl, rfl, rfl, rfl⟩⟩
theorem ty40 : TyOk Try.prog 40 ⟨.slice 3, 1, 24, [.slice none 0 0]⟩ := ⟨⟨Try.t40, _, _, by kernel_rfl, Try.underlying40, rfl, rfl, rfl, rfl, rfl⟩⟩
theorem ty25 : TyOk Try.prog 25 ⟨.struct [(0, 1, false)], 1, 24, [.slice none 0 0]⟩ := ⟨⟨Try.t25, _, _, by kernel_rfl, Try.underlying25, rfl, rfl, rfl, rfl, _, rfl, rfl, fun i o n g h => match i, o, n, g, h with
      | 0, o, n, g, h => by cases h; exact ⟨_, Try.t23, _, rfl, rfl, by kernel_rfl, rfl, Try.underlying23, rfl⟩
      | _ + 1, _, _, _, h => by simp at h⟩⟩
theorem ty74 : TyOk Try.prog 74 ⟨.struct [(0, 1, true), (1, 1, false)], 2, 32, [.slice none 0 0, .int .i64 0]⟩ := ⟨⟨Try.t74, _, _, by kernel_rfl, Try.underlying74, rfl, rfl, rfl, rfl, _, rfl, rfl, fun i o n g h => match i, o, n, g, h with
      | 0, o, n, g, h => by cases h; exact ⟨_, Try.t31, _, rfl, rfl, by kernel_rfl, rfl, Try.underlying31, rfl⟩
      | 1, o, n, g, h => by cases h; exact ⟨_, Try.t3, _, rfl, rfl, by kernel_rfl, rfl, Try.underlying3, rfl⟩
      | _ + 2, _, _, _, h => by simp at h⟩⟩
theorem ty48 : TyOk Try.prog 48 ⟨.struct [(0, 1, false), (1, 1, true), (2, 1, false)], 3, 40, [.int .i64 0, .slice none 0 0, .int .i64 0]⟩ := ⟨⟨Try.t48, _, _, by kernel_rfl, Try.underlying48, rfl, rfl, rfl, rfl, _, rfl, rfl, fun i o n g h => match i, o, n, g, h with
      | 0, o, n, g, h => by cases h; exact ⟨_, Try.t3, _, rfl, rfl, by kernel_rfl, rfl, Try.underlying3, rfl⟩
      | 1, o, n, g, h => by cases h; exact ⟨_, Try.t25, _, rfl, rfl, by kernel_rfl, rfl, Try.underlying25, rfl⟩
      | 2, o, n, g, h => by cases h; exact ⟨_, Try.t3, _, rfl, rfl, by kernel_rfl, rfl, Try.underlying3, rfl⟩
      | _ + 3, _, _, _, h => by simp at h⟩⟩
theorem ty58 : TyOk Try.prog 58 ⟨.slice 74, 1, 24, [.slice none 0 0]⟩ := ⟨⟨Try.t58, _, _, by kernel_rfl, Try.underlying58, rfl, rfl, rfl, rfl, rfl⟩⟩
theorem ty5 : TyOk Try.prog 5 ⟨.int .u8, 1, 1, [.int .u8 0]⟩ := ⟨⟨Try.t5, _, _, by kernel_rfl, Try.underlying5, rfl, rfl, rfl, rfl, rfl⟩⟩
theorem ty22 : TyOk Try.prog 22 ⟨.slice 48, 1, 24, [.slice none 0 0]⟩ := ⟨⟨Try.t22, _, _, by kernel_rfl, Try.underlying22, rfl, rfl, rfl, rfl, rfl⟩⟩
theorem ty86 : TyOk Try.prog 86 ⟨.slice 5, 1, 24, [.slice none 0 0]⟩ := ⟨⟨Try.t86, _, _, by kernel_rfl, Try.underlying86, rfl, rfl, rfl, rfl, rfl⟩⟩
theorem ty93 : TyOk Try.prog 93 ⟨.slice 40, 1, 24, [.slice none 0 0]⟩ := ⟨⟨Try.t93, _, _, by kernel_rfl, Try.underlying93, rfl, rfl, rfl, rfl, rfl⟩⟩
theorem ty66 : TyOk Try.prog 66 ⟨.other, 1, 8, [.nilFunc]⟩ := ⟨⟨Try.t66, _, _, by kernel_rfl, Try.underlying66, rfl, rfl, rfl, rfl, rfl⟩⟩
theorem ty79 : TyOk Try.prog 79 ⟨.other, 1, 8, [.nilFunc]⟩ := ⟨⟨Try.t79, _, _, by kernel_rfl, Try.underlying79, rfl, rfl, rfl, rfl, rfl⟩⟩
theorem mixed : Try.prog.follows .mixedOrders = true := by kernel_rfl
theorem Γt_ok : ∀ x ∈ Γt, TyOk Try.prog x.1 x.2 := by
  intro x hx
  simp only [Γt, List.mem_cons, List.not_mem_nil, or_false] at hx
  rcases hx with rfl | rfl | rfl | rfl | rfl | rfl | rfl | rfl | rfl | rfl | rfl | rfl | rfl | rfl | rfl | rfl | rfl | rfl
  · exact ty3
  · exact ty31
  · exact ty53
  · exact ty4
  · exact ty23
  · exact ty29
  · exact ty9
  · exact ty40
  · exact ty25
  · exact ty74
  · exact ty48
  · exact ty58
  · exact ty5
  · exact ty22
  · exact ty86
  · exact ty93
  · exact ty66
  · exact ty79
def Γ : Env := { ty := Γt, io := [(24, [0]), (25, [0]), (26, [0]), (33, [0]), (38, [0]), (54, [0])] }
theorem envOk : EnvOk Try.prog Γ := envOk_of Γt_ok
abbrev FO (f : Nat) (args outs : List Arg) (res : Arg) : Prop := FOk Try.prog f args outs res
abbrev FI (f : Nat) (fn : Func) : Prop := FnIs Try.prog f (fn.body.getD .skip) fn.results.toList fn.ntmps
end Go.Proofs.Ytaeehoafpmimbaa
