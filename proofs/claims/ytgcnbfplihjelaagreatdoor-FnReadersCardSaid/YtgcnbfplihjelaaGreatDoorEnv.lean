/- The table of types and of functions of this translation: no statement of the seat is proved here. No condition. -/
import Derived.Test.YtgcnbfplihjelaaGreatDoorVc
import Derived.Test.YtgcnbfplihjelaaGreatDoorChecked
import Derived.KernelRfl
set_option linter.all false
namespace Go.Proofs.YtgcnbfplihjelaaGreatDoor
open Go.Vs Go.Proofs
/-- The types of this program, as a small table. -/
def Γt : List (Nat × TyI) := [
  (3, ⟨.int .i64, 1, 8, [.int .i64 0]⟩),
  (27, ⟨.struct [(0, 1, false)], 1, 24, [.slice none 0 0]⟩),
  (4, ⟨.bool, 1, 1, [.bool false]⟩),
  (70, ⟨.struct [(0, 1, true), (1, 1, false), (2, 1, true), (3, 1, false), (4, 1, false)], 5, 88, [.slice none 0 0, .slice none 0 0, .slice none 0 0, .int .i64 0, .int .i64 0]⟩),
  (9, ⟨.string, 1, 16, [.string ByteArray.empty]⟩),
  (22, ⟨.slice 5, 1, 24, [.slice none 0 0]⟩),
  (25, ⟨.slice 9, 1, 24, [.slice none 0 0]⟩),
  (86, ⟨.struct [(0, 3, true), (3, 1, false), (4, 1, false), (5, 1, false), (6, 1, false), (7, 1, false), (8, 1, false)], 9, 104, [.int .i64 0, .int .i64 0, .slice none 0 0, .int .i64 0, .slice none 0 0, .int .i64 0, .int .i64 0, .int .i64 0, .int .i64 0]⟩),
  (66, ⟨.struct [(0, 1, false), (1, 1, false), (2, 1, false)], 3, 40, [.int .i64 0, .int .i64 0, .slice none 0 0]⟩),
  (49, ⟨.slice 3, 1, 24, [.slice none 0 0]⟩),
  (31, ⟨.struct [(0, 1, false), (1, 1, true), (2, 1, false)], 3, 40, [.int .i64 0, .slice none 0 0, .int .i64 0]⟩),
  (24, ⟨.slice 31, 1, 24, [.slice none 0 0]⟩),
  (5, ⟨.int .u8, 1, 1, [.int .u8 0]⟩),
  (219, ⟨.int .u32, 1, 4, [.int .u32 0]⟩),
  (54, ⟨.slice 132, 1, 24, [.slice none 0 0]⟩),
  (166, ⟨.struct [(0, 1, false)], 1, 24, [.slice none 0 0]⟩),
  (208, ⟨.int .u64, 1, 8, [.int .u64 0]⟩),
  (80, ⟨.struct [(0, 1, false), (1, 1, false), (2, 1, false), (3, 1, false)], 4, 96, [.slice none 0 0, .slice none 0 0, .slice none 0 0, .slice none 0 0]⟩),
  (132, ⟨.struct [(0, 1, true), (1, 1, false)], 2, 32, [.slice none 0 0, .int .i64 0]⟩),
  (168, ⟨.struct [(0, 1, true), (1, 1, true)], 2, 48, [.slice none 0 0, .slice none 0 0]⟩),
  (57, ⟨.slice 70, 1, 24, [.slice none 0 0]⟩),
  (84, ⟨.slice 147, 1, 24, [.slice none 0 0]⟩),
  (144, ⟨.int .u64, 1, 8, [.int .u64 0]⟩),
  (147, ⟨.struct [(0, 1, false)], 1, 24, [.slice none 0 0]⟩),
  (2, ⟨.int .i64, 1, 8, [.int .i64 0]⟩),
  (149, ⟨.struct [(0, 1, false), (1, 1, false), (2, 1, false)], 3, 40, [.slice none 0 0, .int .i64 0, .int .i64 0]⟩),
  (213, ⟨.slice 224, 1, 24, [.slice none 0 0]⟩),
  (102, ⟨.struct [(0, 1, true), (1, 1, false)], 2, 32, [.slice none 0 0, .int .i64 0]⟩),
  (78, ⟨.slice 27, 1, 24, [.slice none 0 0]⟩),
  (77, ⟨.slice 168, 1, 24, [.slice none 0 0]⟩),
  (40, ⟨.slice 102, 1, 24, [.slice none 0 0]⟩),
  (224, ⟨.struct [(0, 1, false), (1, 1, false)], 2, 32, [.string ByteArray.empty, .string ByteArray.empty]⟩),
  (197, ⟨.slice 49, 1, 24, [.slice none 0 0]⟩),
  (106, ⟨.other, 1, 8, [.nilFunc]⟩),
  (157, ⟨.other, 1, 8, [.nilFunc]⟩),
  (133, ⟨.other, 1, 8, [.nilFunc]⟩),
  (111, ⟨.other, 1, 8, [.nilFunc]⟩),
  (140, ⟨.other, 1, 8, [.nilFunc]⟩),
  (190, ⟨.other, 1, 8, [.nilFunc]⟩),
  (226, ⟨.other, 1, 8, [.nilFunc]⟩)]
theorem ty3 : TyOk Tryz.prog 3 ⟨.int .i64, 1, 8, [.int .i64 0]⟩ := ⟨⟨Tryz.t3, _, _, by kernel_rfl, Tryz.underlying3, rfl, rfl, rfl, rfl, rfl⟩⟩
theorem ty27 : TyOk Tryz.prog 27 ⟨.struct [(0, 1, false)], 1, 24, [.slice none 0 0]⟩ := ⟨⟨Tryz.t27, _, _, by kernel_rfl, Tryz.underlying27, rfl, rfl, rfl, rfl, _, rfl, rfl, fun i o n g h => match i, o, n, g, h with
      | 0, o, n, g, h => by cases h; exact ⟨_, Tryz.t25, _, rfl, rfl, by kernel_rfl, rfl, Tryz.underlying25, rfl⟩
      | _ + 1, _, _, _, h => by simp at h⟩⟩
theorem ty4 : TyOk Tryz.prog 4 ⟨.bool, 1, 1, [.bool false]⟩ := ⟨⟨Tryz.t4, _, _, by kernel_rfl, Tryz.underlying4, rfl, rfl, rfl, rfl, rfl⟩⟩
theorem ty70 : TyOk Tryz.prog 70 ⟨.struct [(0, 1, true), (1, 1, false), (2, 1, true), (3, 1, false), (4, 1, false)], 5, 88, [.slice none 0 0, .slice none 0 0, .slice none 0 0, .int .i64 0, .int .i64 0]⟩ := ⟨⟨Tryz.t70, _, _, by kernel_rfl, Tryz.underlying70, rfl, rfl, rfl, rfl, _, rfl, rfl, fun i o n g h => match i, o, n, g, h with
      | 0, o, n, g, h => by cases h; exact ⟨_, Tryz.t27, _, rfl, rfl, by kernel_rfl, rfl, Tryz.underlying27, rfl⟩
      | 1, o, n, g, h => by cases h; exact ⟨_, Tryz.t22, _, rfl, rfl, by kernel_rfl, rfl, Tryz.underlying22, rfl⟩
      | 2, o, n, g, h => by cases h; exact ⟨_, Tryz.t27, _, rfl, rfl, by kernel_rfl, rfl, Tryz.underlying27, rfl⟩
      | 3, o, n, g, h => by cases h; exact ⟨_, Tryz.t3, _, rfl, rfl, by kernel_rfl, rfl, Tryz.underlying3, rfl⟩
      | 4, o, n, g, h => by cases h; exact ⟨_, Tryz.t3, _, rfl, rfl, by kernel_rfl, rfl, Tryz.underlying3, rfl⟩
      | _ + 5, _, _, _, h => by simp at h⟩⟩
theorem ty9 : TyOk Tryz.prog 9 ⟨.string, 1, 16, [.string ByteArray.empty]⟩ := ⟨⟨Tryz.t9, _, _, by kernel_rfl, Tryz.underlying9, rfl, rfl, rfl, rfl, rfl⟩⟩
theorem ty22 : TyOk Tryz.prog 22 ⟨.slice 5, 1, 24, [.slice none 0 0]⟩ := ⟨⟨Tryz.t22, _, _, by kernel_rfl, Tryz.underlying22, rfl, rfl, rfl, rfl, rfl⟩⟩
theorem ty25 : TyOk Tryz.prog 25 ⟨.slice 9, 1, 24, [.slice none 0 0]⟩ := ⟨⟨Tryz.t25, _, _, by kernel_rfl, Tryz.underlying25, rfl, rfl, rfl, rfl, rfl⟩⟩
theorem ty86 : TyOk Tryz.prog 86 ⟨.struct [(0, 3, true), (3, 1, false), (4, 1, false), (5, 1, false), (6, 1, false), (7, 1, false), (8, 1, false)], 9, 104, [.int .i64 0, .int .i64 0, .slice none 0 0, .int .i64 0, .slice none 0 0, .int .i64 0, .int .i64 0, .int .i64 0, .int .i64 0]⟩ := ⟨⟨Tryz.t86, _, _, by kernel_rfl, Tryz.underlying86, rfl, rfl, rfl, rfl, _, rfl, rfl, fun i o n g h => match i, o, n, g, h with
      | 0, o, n, g, h => by cases h; exact ⟨_, Tryz.t66, _, rfl, rfl, by kernel_rfl, rfl, Tryz.underlying66, rfl⟩
      | 1, o, n, g, h => by cases h; exact ⟨_, Tryz.t3, _, rfl, rfl, by kernel_rfl, rfl, Tryz.underlying3, rfl⟩
      | 2, o, n, g, h => by cases h; exact ⟨_, Tryz.t84, _, rfl, rfl, by kernel_rfl, rfl, Tryz.underlying84, rfl⟩
      | 3, o, n, g, h => by cases h; exact ⟨_, Tryz.t3, _, rfl, rfl, by kernel_rfl, rfl, Tryz.underlying3, rfl⟩
      | 4, o, n, g, h => by cases h; exact ⟨_, Tryz.t3, _, rfl, rfl, by kernel_rfl, rfl, Tryz.underlying3, rfl⟩
      | 5, o, n, g, h => by cases h; exact ⟨_, Tryz.t3, _, rfl, rfl, by kernel_rfl, rfl, Tryz.underlying3, rfl⟩
      | 6, o, n, g, h => by cases h; exact ⟨_, Tryz.t3, _, rfl, rfl, by kernel_rfl, rfl, Tryz.underlying3, rfl⟩
      | _ + 7, _, _, _, h => by simp at h⟩⟩
theorem ty66 : TyOk Tryz.prog 66 ⟨.struct [(0, 1, false), (1, 1, false), (2, 1, false)], 3, 40, [.int .i64 0, .int .i64 0, .slice none 0 0]⟩ := ⟨⟨Tryz.t66, _, _, by kernel_rfl, Tryz.underlying66, rfl, rfl, rfl, rfl, _, rfl, rfl, fun i o n g h => match i, o, n, g, h with
      | 0, o, n, g, h => by cases h; exact ⟨_, Tryz.t3, _, rfl, rfl, by kernel_rfl, rfl, Tryz.underlying3, rfl⟩
      | 1, o, n, g, h => by cases h; exact ⟨_, Tryz.t3, _, rfl, rfl, by kernel_rfl, rfl, Tryz.underlying3, rfl⟩
      | 2, o, n, g, h => by cases h; exact ⟨_, Tryz.t49, _, rfl, rfl, by kernel_rfl, rfl, Tryz.underlying49, rfl⟩
      | _ + 3, _, _, _, h => by simp at h⟩⟩
theorem ty49 : TyOk Tryz.prog 49 ⟨.slice 3, 1, 24, [.slice none 0 0]⟩ := ⟨⟨Tryz.t49, _, _, by kernel_rfl, Tryz.underlying49, rfl, rfl, rfl, rfl, rfl⟩⟩
theorem ty31 : TyOk Tryz.prog 31 ⟨.struct [(0, 1, false), (1, 1, true), (2, 1, false)], 3, 40, [.int .i64 0, .slice none 0 0, .int .i64 0]⟩ := ⟨⟨Tryz.t31, _, _, by kernel_rfl, Tryz.underlying31, rfl, rfl, rfl, rfl, _, rfl, rfl, fun i o n g h => match i, o, n, g, h with
      | 0, o, n, g, h => by cases h; exact ⟨_, Tryz.t3, _, rfl, rfl, by kernel_rfl, rfl, Tryz.underlying3, rfl⟩
      | 1, o, n, g, h => by cases h; exact ⟨_, Tryz.t27, _, rfl, rfl, by kernel_rfl, rfl, Tryz.underlying27, rfl⟩
      | 2, o, n, g, h => by cases h; exact ⟨_, Tryz.t3, _, rfl, rfl, by kernel_rfl, rfl, Tryz.underlying3, rfl⟩
      | _ + 3, _, _, _, h => by simp at h⟩⟩
theorem ty24 : TyOk Tryz.prog 24 ⟨.slice 31, 1, 24, [.slice none 0 0]⟩ := ⟨⟨Tryz.t24, _, _, by kernel_rfl, Tryz.underlying24, rfl, rfl, rfl, rfl, rfl⟩⟩
theorem ty5 : TyOk Tryz.prog 5 ⟨.int .u8, 1, 1, [.int .u8 0]⟩ := ⟨⟨Tryz.t5, _, _, by kernel_rfl, Tryz.underlying5, rfl, rfl, rfl, rfl, rfl⟩⟩
theorem ty219 : TyOk Tryz.prog 219 ⟨.int .u32, 1, 4, [.int .u32 0]⟩ := ⟨⟨Tryz.t219, _, _, by kernel_rfl, Tryz.underlying219, rfl, rfl, rfl, rfl, rfl⟩⟩
theorem ty54 : TyOk Tryz.prog 54 ⟨.slice 132, 1, 24, [.slice none 0 0]⟩ := ⟨⟨Tryz.t54, _, _, by kernel_rfl, Tryz.underlying54, rfl, rfl, rfl, rfl, rfl⟩⟩
theorem ty166 : TyOk Tryz.prog 166 ⟨.struct [(0, 1, false)], 1, 24, [.slice none 0 0]⟩ := ⟨⟨Tryz.t166, _, _, by kernel_rfl, Tryz.underlying166, rfl, rfl, rfl, rfl, _, rfl, rfl, fun i o n g h => match i, o, n, g, h with
      | 0, o, n, g, h => by cases h; exact ⟨_, Tryz.t25, _, rfl, rfl, by kernel_rfl, rfl, Tryz.underlying25, rfl⟩
      | _ + 1, _, _, _, h => by simp at h⟩⟩
theorem ty208 : TyOk Tryz.prog 208 ⟨.int .u64, 1, 8, [.int .u64 0]⟩ := ⟨⟨Tryz.t208, _, _, by kernel_rfl, Tryz.underlying208, rfl, rfl, rfl, rfl, rfl⟩⟩
theorem ty80 : TyOk Tryz.prog 80 ⟨.struct [(0, 1, false), (1, 1, false), (2, 1, false), (3, 1, false)], 4, 96, [.slice none 0 0, .slice none 0 0, .slice none 0 0, .slice none 0 0]⟩ := ⟨⟨Tryz.t80, _, _, by kernel_rfl, Tryz.underlying80, rfl, rfl, rfl, rfl, _, rfl, rfl, fun i o n g h => match i, o, n, g, h with
      | 0, o, n, g, h => by cases h; exact ⟨_, Tryz.t54, _, rfl, rfl, by kernel_rfl, rfl, Tryz.underlying54, rfl⟩
      | 1, o, n, g, h => by cases h; exact ⟨_, Tryz.t77, _, rfl, rfl, by kernel_rfl, rfl, Tryz.underlying77, rfl⟩
      | 2, o, n, g, h => by cases h; exact ⟨_, Tryz.t78, _, rfl, rfl, by kernel_rfl, rfl, Tryz.underlying78, rfl⟩
      | 3, o, n, g, h => by cases h; exact ⟨_, Tryz.t57, _, rfl, rfl, by kernel_rfl, rfl, Tryz.underlying57, rfl⟩
      | _ + 4, _, _, _, h => by simp at h⟩⟩
theorem ty132 : TyOk Tryz.prog 132 ⟨.struct [(0, 1, true), (1, 1, false)], 2, 32, [.slice none 0 0, .int .i64 0]⟩ := ⟨⟨Tryz.t132, _, _, by kernel_rfl, Tryz.underlying132, rfl, rfl, rfl, rfl, _, rfl, rfl, fun i o n g h => match i, o, n, g, h with
      | 0, o, n, g, h => by cases h; exact ⟨_, Tryz.t27, _, rfl, rfl, by kernel_rfl, rfl, Tryz.underlying27, rfl⟩
      | 1, o, n, g, h => by cases h; exact ⟨_, Tryz.t3, _, rfl, rfl, by kernel_rfl, rfl, Tryz.underlying3, rfl⟩
      | _ + 2, _, _, _, h => by simp at h⟩⟩
theorem ty168 : TyOk Tryz.prog 168 ⟨.struct [(0, 1, true), (1, 1, true)], 2, 48, [.slice none 0 0, .slice none 0 0]⟩ := ⟨⟨Tryz.t168, _, _, by kernel_rfl, Tryz.underlying168, rfl, rfl, rfl, rfl, _, rfl, rfl, fun i o n g h => match i, o, n, g, h with
      | 0, o, n, g, h => by cases h; exact ⟨_, Tryz.t166, _, rfl, rfl, by kernel_rfl, rfl, Tryz.underlying166, rfl⟩
      | 1, o, n, g, h => by cases h; exact ⟨_, Tryz.t166, _, rfl, rfl, by kernel_rfl, rfl, Tryz.underlying166, rfl⟩
      | _ + 2, _, _, _, h => by simp at h⟩⟩
theorem ty57 : TyOk Tryz.prog 57 ⟨.slice 70, 1, 24, [.slice none 0 0]⟩ := ⟨⟨Tryz.t57, _, _, by kernel_rfl, Tryz.underlying57, rfl, rfl, rfl, rfl, rfl⟩⟩
theorem ty84 : TyOk Tryz.prog 84 ⟨.slice 147, 1, 24, [.slice none 0 0]⟩ := ⟨⟨Tryz.t84, _, _, by kernel_rfl, Tryz.underlying84, rfl, rfl, rfl, rfl, rfl⟩⟩
theorem ty144 : TyOk Tryz.prog 144 ⟨.int .u64, 1, 8, [.int .u64 0]⟩ := ⟨⟨Tryz.t144, _, _, by kernel_rfl, Tryz.underlying144, rfl, rfl, rfl, rfl, rfl⟩⟩
theorem ty147 : TyOk Tryz.prog 147 ⟨.struct [(0, 1, false)], 1, 24, [.slice none 0 0]⟩ := ⟨⟨Tryz.t147, _, _, by kernel_rfl, Tryz.underlying147, rfl, rfl, rfl, rfl, _, rfl, rfl, fun i o n g h => match i, o, n, g, h with
      | 0, o, n, g, h => by cases h; exact ⟨_, Tryz.t22, _, rfl, rfl, by kernel_rfl, rfl, Tryz.underlying22, rfl⟩
      | _ + 1, _, _, _, h => by simp at h⟩⟩
theorem ty2 : TyOk Tryz.prog 2 ⟨.int .i64, 1, 8, [.int .i64 0]⟩ := ⟨⟨Tryz.t2, _, _, by kernel_rfl, Tryz.underlying2, rfl, rfl, rfl, rfl, rfl⟩⟩
theorem ty149 : TyOk Tryz.prog 149 ⟨.struct [(0, 1, false), (1, 1, false), (2, 1, false)], 3, 40, [.slice none 0 0, .int .i64 0, .int .i64 0]⟩ := ⟨⟨Tryz.t149, _, _, by kernel_rfl, Tryz.underlying149, rfl, rfl, rfl, rfl, _, rfl, rfl, fun i o n g h => match i, o, n, g, h with
      | 0, o, n, g, h => by cases h; exact ⟨_, Tryz.t22, _, rfl, rfl, by kernel_rfl, rfl, Tryz.underlying22, rfl⟩
      | 1, o, n, g, h => by cases h; exact ⟨_, Tryz.t3, _, rfl, rfl, by kernel_rfl, rfl, Tryz.underlying3, rfl⟩
      | 2, o, n, g, h => by cases h; exact ⟨_, Tryz.t3, _, rfl, rfl, by kernel_rfl, rfl, Tryz.underlying3, rfl⟩
      | _ + 3, _, _, _, h => by simp at h⟩⟩
theorem ty213 : TyOk Tryz.prog 213 ⟨.slice 224, 1, 24, [.slice none 0 0]⟩ := ⟨⟨Tryz.t213, _, _, by kernel_rfl, Tryz.underlying213, rfl, rfl, rfl, rfl, rfl⟩⟩
theorem ty102 : TyOk Tryz.prog 102 ⟨.struct [(0, 1, true), (1, 1, false)], 2, 32, [.slice none 0 0, .int .i64 0]⟩ := ⟨⟨Tryz.t102, _, _, by kernel_rfl, Tryz.underlying102, rfl, rfl, rfl, rfl, _, rfl, rfl, fun i o n g h => match i, o, n, g, h with
      | 0, o, n, g, h => by cases h; exact ⟨_, Tryz.t27, _, rfl, rfl, by kernel_rfl, rfl, Tryz.underlying27, rfl⟩
      | 1, o, n, g, h => by cases h; exact ⟨_, Tryz.t3, _, rfl, rfl, by kernel_rfl, rfl, Tryz.underlying3, rfl⟩
      | _ + 2, _, _, _, h => by simp at h⟩⟩
theorem ty78 : TyOk Tryz.prog 78 ⟨.slice 27, 1, 24, [.slice none 0 0]⟩ := ⟨⟨Tryz.t78, _, _, by kernel_rfl, Tryz.underlying78, rfl, rfl, rfl, rfl, rfl⟩⟩
theorem ty77 : TyOk Tryz.prog 77 ⟨.slice 168, 1, 24, [.slice none 0 0]⟩ := ⟨⟨Tryz.t77, _, _, by kernel_rfl, Tryz.underlying77, rfl, rfl, rfl, rfl, rfl⟩⟩
theorem ty40 : TyOk Tryz.prog 40 ⟨.slice 102, 1, 24, [.slice none 0 0]⟩ := ⟨⟨Tryz.t40, _, _, by kernel_rfl, Tryz.underlying40, rfl, rfl, rfl, rfl, rfl⟩⟩
theorem ty224 : TyOk Tryz.prog 224 ⟨.struct [(0, 1, false), (1, 1, false)], 2, 32, [.string ByteArray.empty, .string ByteArray.empty]⟩ := ⟨⟨Tryz.t224, _, _, by kernel_rfl, Tryz.underlying224, rfl, rfl, rfl, rfl, _, rfl, rfl, fun i o n g h => match i, o, n, g, h with
      | 0, o, n, g, h => by cases h; exact ⟨_, Tryz.t9, _, rfl, rfl, by kernel_rfl, rfl, Tryz.underlying9, rfl⟩
      | 1, o, n, g, h => by cases h; exact ⟨_, Tryz.t9, _, rfl, rfl, by kernel_rfl, rfl, Tryz.underlying9, rfl⟩
      | _ + 2, _, _, _, h => by simp at h⟩⟩
theorem ty197 : TyOk Tryz.prog 197 ⟨.slice 49, 1, 24, [.slice none 0 0]⟩ := ⟨⟨Tryz.t197, _, _, by kernel_rfl, Tryz.underlying197, rfl, rfl, rfl, rfl, rfl⟩⟩
theorem ty106 : TyOk Tryz.prog 106 ⟨.other, 1, 8, [.nilFunc]⟩ := ⟨⟨Tryz.t106, _, _, by kernel_rfl, Tryz.underlying106, rfl, rfl, rfl, rfl, rfl⟩⟩
theorem ty157 : TyOk Tryz.prog 157 ⟨.other, 1, 8, [.nilFunc]⟩ := ⟨⟨Tryz.t157, _, _, by kernel_rfl, Tryz.underlying157, rfl, rfl, rfl, rfl, rfl⟩⟩
theorem ty133 : TyOk Tryz.prog 133 ⟨.other, 1, 8, [.nilFunc]⟩ := ⟨⟨Tryz.t133, _, _, by kernel_rfl, Tryz.underlying133, rfl, rfl, rfl, rfl, rfl⟩⟩
theorem ty111 : TyOk Tryz.prog 111 ⟨.other, 1, 8, [.nilFunc]⟩ := ⟨⟨Tryz.t111, _, _, by kernel_rfl, Tryz.underlying111, rfl, rfl, rfl, rfl, rfl⟩⟩
theorem ty140 : TyOk Tryz.prog 140 ⟨.other, 1, 8, [.nilFunc]⟩ := ⟨⟨Tryz.t140, _, _, by kernel_rfl, Tryz.underlying140, rfl, rfl, rfl, rfl, rfl⟩⟩
theorem ty190 : TyOk Tryz.prog 190 ⟨.other, 1, 8, [.nilFunc]⟩ := ⟨⟨Tryz.t190, _, _, by kernel_rfl, Tryz.underlying190, rfl, rfl, rfl, rfl, rfl⟩⟩
theorem ty226 : TyOk Tryz.prog 226 ⟨.other, 1, 8, [.nilFunc]⟩ := ⟨⟨Tryz.t226, _, _, by kernel_rfl, Tryz.underlying226, rfl, rfl, rfl, rfl, rfl⟩⟩
theorem mixed : Tryz.prog.follows .mixedOrders = true := by kernel_rfl
theorem Γt_ok : ∀ x ∈ Γt, TyOk Tryz.prog x.1 x.2 := by
  intro x hx
  simp only [Γt, List.mem_cons, List.not_mem_nil, or_false] at hx
  rcases hx with rfl | rfl | rfl | rfl | rfl | rfl | rfl | rfl | rfl | rfl | rfl | rfl | rfl | rfl | rfl | rfl | rfl | rfl | rfl | rfl | rfl | rfl | rfl | rfl | rfl | rfl | rfl | rfl | rfl | rfl | rfl | rfl | rfl | rfl | rfl | rfl | rfl | rfl | rfl | rfl
  · exact ty3
  · exact ty27
  · exact ty4
  · exact ty70
  · exact ty9
  · exact ty22
  · exact ty25
  · exact ty86
  · exact ty66
  · exact ty49
  · exact ty31
  · exact ty24
  · exact ty5
  · exact ty219
  · exact ty54
  · exact ty166
  · exact ty208
  · exact ty80
  · exact ty132
  · exact ty168
  · exact ty57
  · exact ty84
  · exact ty144
  · exact ty147
  · exact ty2
  · exact ty149
  · exact ty213
  · exact ty102
  · exact ty78
  · exact ty77
  · exact ty40
  · exact ty224
  · exact ty197
  · exact ty106
  · exact ty157
  · exact ty133
  · exact ty111
  · exact ty140
  · exact ty190
  · exact ty226
def Γ : Env := { ty := Γt, io := [(60, [0]), (61, [0]), (62, [0]), (63, [0]), (64, [0]), (72, [0]), (76, [0]), (89, [0]), (91, [0]), (92, [0]), (93, [0]), (117, [0]), (118, [0]), (126, [0]), (128, [0]), (143, [0]), (174, [1000])], esc := [149] }
theorem envOk : EnvOk Tryz.prog Γ := envOk_of Γt_ok
abbrev FO (f : Nat) (args outs : List Arg) (res : Arg) : Prop := FOk Tryz.prog f args outs res
abbrev FI (f : Nat) (fn : Func) : Prop := FnIs Tryz.prog f (fn.body.getD .skip) fn.results.toList fn.ntmps
end Go.Proofs.YtgcnbfplihjelaaGreatDoor
