/- The table of types and of functions of this translation: no statement of the seat is proved here. No condition. -/
import Derived.Test.YteejljpfpnlpaaaVc
import Derived.Test.YteejljpfpnlpaaaChecked
import Derived.KernelRfl
set_option linter.all false
namespace Go.Proofs.Yteejljpfpnlpaaa
open Go.Vs Go.Proofs
/-- The types of this program, as a small table. -/
def Γt : List (Nat × TyI) := [
  (3, ⟨.int .i64, 1, 8, [.int .i64 0]⟩),
  (27, ⟨.struct [(0, 1, false), (1, 1, false), (2, 1, false)], 3, 40, [.int .i64 0, .int .i64 0, .slice none 0 0]⟩),
  (4, ⟨.bool, 1, 1, [.bool false]⟩),
  (64, ⟨.struct [(0, 3, true), (3, 1, false), (4, 1, false), (5, 1, false), (6, 1, false), (7, 1, false), (8, 1, false)], 9, 104, [.int .i64 0, .int .i64 0, .slice none 0 0, .int .i64 0, .slice none 0 0, .int .i64 0, .int .i64 0, .int .i64 0, .int .i64 0]⟩),
  (46, ⟨.struct [(0, 1, false)], 1, 24, [.slice none 0 0]⟩),
  (22, ⟨.slice 3, 1, 24, [.slice none 0 0]⟩),
  (31, ⟨.slice 5, 1, 24, [.slice none 0 0]⟩),
  (42, ⟨.slice 9, 1, 24, [.slice none 0 0]⟩),
  (24, ⟨.struct [(0, 1, false), (1, 1, false), (2, 1, false)], 3, 40, [.int .i64 0, .int .i64 0, .slice none 0 0]⟩),
  (5, ⟨.int .u8, 1, 1, [.int .u8 0]⟩),
  (62, ⟨.slice 91, 1, 24, [.slice none 0 0]⟩),
  (59, ⟨.struct [(0, 3, true), (3, 1, false), (4, 1, false), (5, 1, false), (6, 1, false), (7, 1, false), (8, 1, false)], 9, 104, [.int .i64 0, .int .i64 0, .slice none 0 0, .int .i64 0, .slice none 0 0, .int .i64 0, .int .i64 0, .int .i64 0, .int .i64 0]⟩),
  (91, ⟨.struct [(0, 1, false)], 1, 24, [.slice none 0 0]⟩),
  (9, ⟨.string, 1, 16, [.string ByteArray.empty]⟩),
  (44, ⟨.struct [(0, 1, false)], 1, 24, [.slice none 0 0]⟩),
  (107, ⟨.struct [(0, 1, false)], 1, 24, [.slice none 0 0]⟩),
  (57, ⟨.slice 107, 1, 24, [.slice none 0 0]⟩),
  (78, ⟨.other, 1, 8, [.nilFunc]⟩),
  (111, ⟨.int .u64, 1, 8, [.int .u64 0]⟩),
  (110, ⟨.other, 1, 8, [.nilFunc]⟩)]
theorem ty3 : TyOk Try.prog 3 ⟨.int .i64, 1, 8, [.int .i64 0]⟩ := ⟨⟨Try.t3, _, _, by kernel_rfl, Try.underlying3, rfl, rfl, rfl, rfl, rfl⟩⟩
theorem ty27 : TyOk Try.prog 27 ⟨.struct [(0, 1, false), (1, 1, false), (2, 1, false)], 3, 40, [.int .i64 0, .int .i64 0, .slice none 0 0]⟩ := ⟨⟨Try.t27, _, _, by kernel_rfl, Try.underlying27, rfl, rfl, rfl, rfl, _, rfl, rfl, fun i o n g h => match i, o, n, g, h with
      | 0, o, n, g, h => by cases h; exact ⟨_, Try.t3, _, rfl, rfl, by kernel_rfl, rfl, Try.underlying3, rfl⟩
      | 1, o, n, g, h => by cases h; exact ⟨_, Try.t3, _, rfl, rfl, by kernel_rfl, rfl, Try.underlying3, rfl⟩
      | 2, o, n, g, h => by cases h; exact ⟨_, Try.t22, _, rfl, rfl, by kernel_rfl, rfl, Try.underlying22, rfl⟩
      | _ + 3, _, _, _, h => by simp at h⟩⟩
theorem ty4 : TyOk Try.prog 4 ⟨.bool, 1, 1, [.bool false]⟩ := ⟨⟨Try.t4, _, _, by kernel_rfl, Try.underlying4, rfl, rfl, rfl, rfl, rfl⟩⟩
theorem ty64 : TyOk Try.prog 64 ⟨.struct [(0, 3, true), (3, 1, false), (4, 1, false), (5, 1, false), (6, 1, false), (7, 1, false), (8, 1, false)], 9, 104, [.int .i64 0, .int .i64 0, .slice none 0 0, .int .i64 0, .slice none 0 0, .int .i64 0, .int .i64 0, .int .i64 0, .int .i64 0]⟩ := ⟨⟨Try.t64, _, _, by kernel_rfl, Try.underlying64, rfl, rfl, rfl, rfl, _, rfl, rfl, fun i o n g h => match i, o, n, g, h with
      | 0, o, n, g, h => by cases h; exact ⟨_, Try.t27, _, rfl, rfl, by kernel_rfl, rfl, Try.underlying27, rfl⟩
      | 1, o, n, g, h => by cases h; exact ⟨_, Try.t3, _, rfl, rfl, by kernel_rfl, rfl, Try.underlying3, rfl⟩
      | 2, o, n, g, h => by cases h; exact ⟨_, Try.t62, _, rfl, rfl, by kernel_rfl, rfl, Try.underlying62, rfl⟩
      | 3, o, n, g, h => by cases h; exact ⟨_, Try.t3, _, rfl, rfl, by kernel_rfl, rfl, Try.underlying3, rfl⟩
      | 4, o, n, g, h => by cases h; exact ⟨_, Try.t3, _, rfl, rfl, by kernel_rfl, rfl, Try.underlying3, rfl⟩
      | 5, o, n, g, h => by cases h; exact ⟨_, Try.t3, _, rfl, rfl, by kernel_rfl, rfl, Try.underlying3, rfl⟩
      | 6, o, n, g, h => by cases h; exact ⟨_, Try.t3, _, rfl, rfl, by kernel_rfl, rfl, Try.underlying3, rfl⟩
      | _ + 7, _, _, _, h => by simp at h⟩⟩
theorem ty46 : TyOk Try.prog 46 ⟨.struct [(0, 1, false)], 1, 24, [.slice none 0 0]⟩ := ⟨⟨Try.t46, _, _, by kernel_rfl, Try.underlying46, rfl, rfl, rfl, rfl, _, rfl, rfl, fun i o n g h => match i, o, n, g, h with
      | 0, o, n, g, h => by cases h; exact ⟨_, Try.t42, _, rfl, rfl, by kernel_rfl, rfl, Try.underlying42, rfl⟩
      | _ + 1, _, _, _, h => by simp at h⟩⟩
theorem ty22 : TyOk Try.prog 22 ⟨.slice 3, 1, 24, [.slice none 0 0]⟩ := ⟨⟨Try.t22, _, _, by kernel_rfl, Try.underlying22, rfl, rfl, rfl, rfl, rfl⟩⟩
theorem ty31 : TyOk Try.prog 31 ⟨.slice 5, 1, 24, [.slice none 0 0]⟩ := ⟨⟨Try.t31, _, _, by kernel_rfl, Try.underlying31, rfl, rfl, rfl, rfl, rfl⟩⟩
theorem ty42 : TyOk Try.prog 42 ⟨.slice 9, 1, 24, [.slice none 0 0]⟩ := ⟨⟨Try.t42, _, _, by kernel_rfl, Try.underlying42, rfl, rfl, rfl, rfl, rfl⟩⟩
theorem ty24 : TyOk Try.prog 24 ⟨.struct [(0, 1, false), (1, 1, false), (2, 1, false)], 3, 40, [.int .i64 0, .int .i64 0, .slice none 0 0]⟩ := ⟨⟨Try.t24, _, _, by kernel_rfl, Try.underlying24, rfl, rfl, rfl, rfl, _, rfl, rfl, fun i o n g h => match i, o, n, g, h with
      | 0, o, n, g, h => by cases h; exact ⟨_, Try.t3, _, rfl, rfl, by kernel_rfl, rfl, Try.underlying3, rfl⟩
      | 1, o, n, g, h => by cases h; exact ⟨_, Try.t3, _, rfl, rfl, by kernel_rfl, rfl, Try.underlying3, rfl⟩
      | 2, o, n, g, h => by cases h; exact ⟨_, Try.t22, _, rfl, rfl, by kernel_rfl, rfl, Try.underlying22, rfl⟩
      | _ + 3, _, _, _, h => by simp at h⟩⟩
theorem ty5 : TyOk Try.prog 5 ⟨.int .u8, 1, 1, [.int .u8 0]⟩ := ⟨⟨Try.t5, _, _, by kernel_rfl, Try.underlying5, rfl, rfl, rfl, rfl, rfl⟩⟩
theorem ty62 : TyOk Try.prog 62 ⟨.slice 91, 1, 24, [.slice none 0 0]⟩ := ⟨⟨Try.t62, _, _, by kernel_rfl, Try.underlying62, rfl, rfl, rfl, rfl, rfl⟩⟩
theorem ty59 : TyOk Try.prog 59 ⟨.struct [(0, 3, true), (3, 1, false), (4, 1, false), (5, 1, false), (6, 1, false), (7, 1, false), (8, 1, false)], 9, 104, [.int .i64 0, .int .i64 0, .slice none 0 0, .int .i64 0, .slice none 0 0, .int .i64 0, .int .i64 0, .int .i64 0, .int .i64 0]⟩ := ⟨⟨Try.t59, _, _, by kernel_rfl, Try.underlying59, rfl, rfl, rfl, rfl, _, rfl, rfl, fun i o n g h => match i, o, n, g, h with
      | 0, o, n, g, h => by cases h; exact ⟨_, Try.t24, _, rfl, rfl, by kernel_rfl, rfl, Try.underlying24, rfl⟩
      | 1, o, n, g, h => by cases h; exact ⟨_, Try.t3, _, rfl, rfl, by kernel_rfl, rfl, Try.underlying3, rfl⟩
      | 2, o, n, g, h => by cases h; exact ⟨_, Try.t57, _, rfl, rfl, by kernel_rfl, rfl, Try.underlying57, rfl⟩
      | 3, o, n, g, h => by cases h; exact ⟨_, Try.t3, _, rfl, rfl, by kernel_rfl, rfl, Try.underlying3, rfl⟩
      | 4, o, n, g, h => by cases h; exact ⟨_, Try.t3, _, rfl, rfl, by kernel_rfl, rfl, Try.underlying3, rfl⟩
      | 5, o, n, g, h => by cases h; exact ⟨_, Try.t3, _, rfl, rfl, by kernel_rfl, rfl, Try.underlying3, rfl⟩
      | 6, o, n, g, h => by cases h; exact ⟨_, Try.t3, _, rfl, rfl, by kernel_rfl, rfl, Try.underlying3, rfl⟩
      | _ + 7, _, _, _, h => by simp at h⟩⟩
theorem ty91 : TyOk Try.prog 91 ⟨.struct [(0, 1, false)], 1, 24, [.slice none 0 0]⟩ := ⟨⟨Try.t91, _, _, by kernel_rfl, Try.underlying91, rfl, rfl, rfl, rfl, _, rfl, rfl, fun i o n g h => match i, o, n, g, h with
      | 0, o, n, g, h => by cases h; exact ⟨_, Try.t31, _, rfl, rfl, by kernel_rfl, rfl, Try.underlying31, rfl⟩
      | _ + 1, _, _, _, h => by simp at h⟩⟩
theorem ty9 : TyOk Try.prog 9 ⟨.string, 1, 16, [.string ByteArray.empty]⟩ := ⟨⟨Try.t9, _, _, by kernel_rfl, Try.underlying9, rfl, rfl, rfl, rfl, rfl⟩⟩
theorem ty44 : TyOk Try.prog 44 ⟨.struct [(0, 1, false)], 1, 24, [.slice none 0 0]⟩ := ⟨⟨Try.t44, _, _, by kernel_rfl, Try.underlying44, rfl, rfl, rfl, rfl, _, rfl, rfl, fun i o n g h => match i, o, n, g, h with
      | 0, o, n, g, h => by cases h; exact ⟨_, Try.t42, _, rfl, rfl, by kernel_rfl, rfl, Try.underlying42, rfl⟩
      | _ + 1, _, _, _, h => by simp at h⟩⟩
theorem ty107 : TyOk Try.prog 107 ⟨.struct [(0, 1, false)], 1, 24, [.slice none 0 0]⟩ := ⟨⟨Try.t107, _, _, by kernel_rfl, Try.underlying107, rfl, rfl, rfl, rfl, _, rfl, rfl, fun i o n g h => match i, o, n, g, h with
      | 0, o, n, g, h => by cases h; exact ⟨_, Try.t31, _, rfl, rfl, by kernel_rfl, rfl, Try.underlying31, rfl⟩
      | _ + 1, _, _, _, h => by simp at h⟩⟩
theorem ty57 : TyOk Try.prog 57 ⟨.slice 107, 1, 24, [.slice none 0 0]⟩ := ⟨⟨Try.t57, _, _, by kernel_rfl, Try.underlying57, rfl, rfl, rfl, rfl, rfl⟩⟩
theorem ty78 : TyOk Try.prog 78 ⟨.other, 1, 8, [.nilFunc]⟩ := ⟨⟨Try.t78, _, _, by kernel_rfl, Try.underlying78, rfl, rfl, rfl, rfl, rfl⟩⟩
theorem ty111 : TyOk Try.prog 111 ⟨.int .u64, 1, 8, [.int .u64 0]⟩ := ⟨⟨Try.t111, _, _, by kernel_rfl, Try.underlying111, rfl, rfl, rfl, rfl, rfl⟩⟩
theorem ty110 : TyOk Try.prog 110 ⟨.other, 1, 8, [.nilFunc]⟩ := ⟨⟨Try.t110, _, _, by kernel_rfl, Try.underlying110, rfl, rfl, rfl, rfl, rfl⟩⟩
theorem mixed : Try.prog.follows .mixedOrders = true := by kernel_rfl
theorem Γt_ok : ∀ x ∈ Γt, TyOk Try.prog x.1 x.2 := by
  intro x hx
  simp only [Γt, List.mem_cons, List.not_mem_nil, or_false] at hx
  rcases hx with rfl | rfl | rfl | rfl | rfl | rfl | rfl | rfl | rfl | rfl | rfl | rfl | rfl | rfl | rfl | rfl | rfl | rfl | rfl | rfl
  · exact ty3
  · exact ty27
  · exact ty4
  · exact ty64
  · exact ty46
  · exact ty22
  · exact ty31
  · exact ty42
  · exact ty24
  · exact ty5
  · exact ty62
  · exact ty59
  · exact ty91
  · exact ty9
  · exact ty44
  · exact ty107
  · exact ty57
  · exact ty78
  · exact ty111
  · exact ty110
def Γ : Env := { ty := Γt, io := [(23, [0]), (24, [0]), (36, [0]), (47, [0]), (51, [0]), (78, [0]), (87, [0])] }
theorem envOk : EnvOk Try.prog Γ := envOk_of Γt_ok
abbrev FO (f : Nat) (args outs : List Arg) (res : Arg) : Prop := FOk Try.prog f args outs res
abbrev FI (f : Nat) (fn : Func) : Prop := FnIs Try.prog f (fn.body.getD .skip) fn.results.toList fn.ntmps
end Go.Proofs.Yteejljpfpnlpaaa
