/- The table of types and of functions of this translation: no statement of the seat is proved here. No condition. -/
import Derived.Test.YtkleapappjagfaaVc
import Derived.Test.YtkleapappjagfaaChecked
import Derived.KernelRfl
set_option linter.all false
namespace Go.Proofs.Ytkleapappjagfaa
open Go.Vs Go.Proofs
/-- The types of this program, as a small table. -/
def Γt : List (Nat × TyI) := [
  (3, ⟨.int .i64, 1, 8, [.int .i64 0]⟩),
  (29, ⟨.slice 3, 1, 24, [.slice none 0 0]⟩),
  (4, ⟨.bool, 1, 1, [.bool false]⟩),
  (72, ⟨.int .u64, 1, 8, [.int .u64 0]⟩),
  (43, ⟨.struct [(0, 1, false), (1, 1, false), (2, 1, false), (3, 1, false)], 4, 64, [.int .i64 0, .int .i64 0, .slice none 0 0, .slice none 0 0]⟩),
  (25, ⟨.slice 43, 1, 24, [.slice none 0 0]⟩),
  (58, ⟨.int .u64, 1, 8, [.int .u64 0]⟩),
  (62, ⟨.slice 9, 1, 24, [.slice none 0 0]⟩),
  (9, ⟨.string, 1, 16, [.string ByteArray.empty]⟩),
  (64, ⟨.struct [(0, 1, false)], 1, 24, [.slice none 0 0]⟩),
  (41, ⟨.slice 64, 1, 24, [.slice none 0 0]⟩),
  (40, ⟨.struct [(0, 1, false), (1, 1, false), (2, 1, false), (3, 1, false)], 4, 64, [.int .i64 0, .int .i64 0, .slice none 0 0, .slice none 0 0]⟩),
  (69, ⟨.int .u32, 1, 4, [.int .u32 0]⟩),
  (22, ⟨.slice 40, 1, 24, [.slice none 0 0]⟩),
  (66, ⟨.struct [(0, 1, false)], 1, 24, [.slice none 0 0]⟩),
  (38, ⟨.slice 66, 1, 24, [.slice none 0 0]⟩),
  (78, ⟨.slice 5, 1, 24, [.slice none 0 0]⟩),
  (56, ⟨.other, 1, 8, [.nilFunc]⟩),
  (5, ⟨.int .u8, 1, 1, [.int .u8 0]⟩)]
theorem ty3 : TyOk Try.prog 3 ⟨.int .i64, 1, 8, [.int .i64 0]⟩ := ⟨⟨Try.t3, _, _, by kernel_rfl, Try.underlying3, rfl, rfl, rfl, rfl, rfl⟩⟩
theorem ty29 : TyOk Try.prog 29 ⟨.slice 3, 1, 24, [.slice none 0 0]⟩ := ⟨⟨Try.t29, _, _, by kernel_rfl, Try.underlying29, rfl, rfl, rfl, rfl, rfl⟩⟩
theorem ty4 : TyOk Try.prog 4 ⟨.bool, 1, 1, [.bool false]⟩ := ⟨⟨Try.t4, _, _, by kernel_rfl, Try.underlying4, rfl, rfl, rfl, rfl, rfl⟩⟩
theorem ty72 : TyOk Try.prog 72 ⟨.int .u64, 1, 8, [.int .u64 0]⟩ := ⟨⟨Try.t72, _, _, by kernel_rfl, Try.underlying72, rfl, rfl, rfl, rfl, rfl⟩⟩
theorem ty43 : TyOk Try.prog 43 ⟨.struct [(0, 1, false), (1, 1, false), (2, 1, false), (3, 1, false)], 4, 64, [.int .i64 0, .int .i64 0, .slice none 0 0, .slice none 0 0]⟩ := ⟨⟨Try.t43, _, _, by kernel_rfl, Try.underlying43, rfl, rfl, rfl, rfl, _, rfl, rfl, fun i o n g h => match i, o, n, g, h with
      | 0, o, n, g, h => by cases h; exact ⟨_, Try.t3, _, rfl, rfl, by kernel_rfl, rfl, Try.underlying3, rfl⟩
      | 1, o, n, g, h => by cases h; exact ⟨_, Try.t3, _, rfl, rfl, by kernel_rfl, rfl, Try.underlying3, rfl⟩
      | 2, o, n, g, h => by cases h; exact ⟨_, Try.t29, _, rfl, rfl, by kernel_rfl, rfl, Try.underlying29, rfl⟩
      | 3, o, n, g, h => by cases h; exact ⟨_, Try.t41, _, rfl, rfl, by kernel_rfl, rfl, Try.underlying41, rfl⟩
      | _ + 4, _, _, _, h => by simp at h⟩⟩
theorem ty25 : TyOk Try.prog 25 ⟨.slice 43, 1, 24, [.slice none 0 0]⟩ := ⟨⟨Try.t25, _, _, by kernel_rfl, Try.underlying25, rfl, rfl, rfl, rfl, rfl⟩⟩
theorem ty58 : TyOk Try.prog 58 ⟨.int .u64, 1, 8, [.int .u64 0]⟩ := ⟨⟨Try.t58, _, _, by kernel_rfl, Try.underlying58, rfl, rfl, rfl, rfl, rfl⟩⟩
theorem ty62 : TyOk Try.prog 62 ⟨.slice 9, 1, 24, [.slice none 0 0]⟩ := ⟨⟨Try.t62, _, _, by kernel_rfl, Try.underlying62, rfl, rfl, rfl, rfl, rfl⟩⟩
theorem ty9 : TyOk Try.prog 9 ⟨.string, 1, 16, [.string ByteArray.empty]⟩ := ⟨⟨Try.t9, _, _, by kernel_rfl, Try.underlying9, rfl, rfl, rfl, rfl, rfl⟩⟩
theorem ty64 : TyOk Try.prog 64 ⟨.struct [(0, 1, false)], 1, 24, [.slice none 0 0]⟩ := ⟨⟨Try.t64, _, _, by kernel_rfl, Try.underlying64, rfl, rfl, rfl, rfl, _, rfl, rfl, fun i o n g h => match i, o, n, g, h with
      | 0, o, n, g, h => by cases h; exact ⟨_, Try.t62, _, rfl, rfl, by kernel_rfl, rfl, Try.underlying62, rfl⟩
      | _ + 1, _, _, _, h => by simp at h⟩⟩
theorem ty41 : TyOk Try.prog 41 ⟨.slice 64, 1, 24, [.slice none 0 0]⟩ := ⟨⟨Try.t41, _, _, by kernel_rfl, Try.underlying41, rfl, rfl, rfl, rfl, rfl⟩⟩
theorem ty40 : TyOk Try.prog 40 ⟨.struct [(0, 1, false), (1, 1, false), (2, 1, false), (3, 1, false)], 4, 64, [.int .i64 0, .int .i64 0, .slice none 0 0, .slice none 0 0]⟩ := ⟨⟨Try.t40, _, _, by kernel_rfl, Try.underlying40, rfl, rfl, rfl, rfl, _, rfl, rfl, fun i o n g h => match i, o, n, g, h with
      | 0, o, n, g, h => by cases h; exact ⟨_, Try.t3, _, rfl, rfl, by kernel_rfl, rfl, Try.underlying3, rfl⟩
      | 1, o, n, g, h => by cases h; exact ⟨_, Try.t3, _, rfl, rfl, by kernel_rfl, rfl, Try.underlying3, rfl⟩
      | 2, o, n, g, h => by cases h; exact ⟨_, Try.t29, _, rfl, rfl, by kernel_rfl, rfl, Try.underlying29, rfl⟩
      | 3, o, n, g, h => by cases h; exact ⟨_, Try.t38, _, rfl, rfl, by kernel_rfl, rfl, Try.underlying38, rfl⟩
      | _ + 4, _, _, _, h => by simp at h⟩⟩
theorem ty69 : TyOk Try.prog 69 ⟨.int .u32, 1, 4, [.int .u32 0]⟩ := ⟨⟨Try.t69, _, _, by kernel_rfl, Try.underlying69, rfl, rfl, rfl, rfl, rfl⟩⟩
theorem ty22 : TyOk Try.prog 22 ⟨.slice 40, 1, 24, [.slice none 0 0]⟩ := ⟨⟨Try.t22, _, _, by kernel_rfl, Try.underlying22, rfl, rfl, rfl, rfl, rfl⟩⟩
theorem ty66 : TyOk Try.prog 66 ⟨.struct [(0, 1, false)], 1, 24, [.slice none 0 0]⟩ := ⟨⟨Try.t66, _, _, by kernel_rfl, Try.underlying66, rfl, rfl, rfl, rfl, _, rfl, rfl, fun i o n g h => match i, o, n, g, h with
      | 0, o, n, g, h => by cases h; exact ⟨_, Try.t62, _, rfl, rfl, by kernel_rfl, rfl, Try.underlying62, rfl⟩
      | _ + 1, _, _, _, h => by simp at h⟩⟩
theorem ty38 : TyOk Try.prog 38 ⟨.slice 66, 1, 24, [.slice none 0 0]⟩ := ⟨⟨Try.t38, _, _, by kernel_rfl, Try.underlying38, rfl, rfl, rfl, rfl, rfl⟩⟩
theorem ty78 : TyOk Try.prog 78 ⟨.slice 5, 1, 24, [.slice none 0 0]⟩ := ⟨⟨Try.t78, _, _, by kernel_rfl, Try.underlying78, rfl, rfl, rfl, rfl, rfl⟩⟩
theorem ty56 : TyOk Try.prog 56 ⟨.other, 1, 8, [.nilFunc]⟩ := ⟨⟨Try.t56, _, _, by kernel_rfl, Try.underlying56, rfl, rfl, rfl, rfl, rfl⟩⟩
theorem ty5 : TyOk Try.prog 5 ⟨.int .u8, 1, 1, [.int .u8 0]⟩ := ⟨⟨Try.t5, _, _, by kernel_rfl, Try.underlying5, rfl, rfl, rfl, rfl, rfl⟩⟩
theorem mixed : Try.prog.follows .mixedOrders = true := by kernel_rfl
theorem Γt_ok : ∀ x ∈ Γt, TyOk Try.prog x.1 x.2 := by
  intro x hx
  simp only [Γt, List.mem_cons, List.not_mem_nil, or_false] at hx
  rcases hx with rfl | rfl | rfl | rfl | rfl | rfl | rfl | rfl | rfl | rfl | rfl | rfl | rfl | rfl | rfl | rfl | rfl | rfl | rfl
  · exact ty3
  · exact ty29
  · exact ty4
  · exact ty72
  · exact ty43
  · exact ty25
  · exact ty58
  · exact ty62
  · exact ty9
  · exact ty64
  · exact ty41
  · exact ty40
  · exact ty69
  · exact ty22
  · exact ty66
  · exact ty38
  · exact ty78
  · exact ty56
  · exact ty5
def Γ : Env := { ty := Γt, io := [(17, [0]), (18, [0]), (37, [0]), (51, [0])] }
theorem envOk : EnvOk Try.prog Γ := envOk_of Γt_ok
abbrev FO (f : Nat) (args outs : List Arg) (res : Arg) : Prop := FOk Try.prog f args outs res
abbrev FI (f : Nat) (fn : Func) : Prop := FnIs Try.prog f (fn.body.getD .skip) fn.results.toList fn.ntmps
end Go.Proofs.Ytkleapappjagfaa
