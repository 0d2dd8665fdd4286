/- The table of types and of functions of this translation: no statement of the seat is proved here. No condition. -/
import Derived.Test.YtoekfmkbkffciaaGreatDoorVc
import Derived.Test.YtoekfmkbkffciaaGreatDoorChecked
import Derived.KernelRfl
set_option linter.all false
namespace Go.Proofs.YtoekfmkbkffciaaGreatDoor
open Go.Vs Go.Proofs
/-- The types of this program, as a small table. -/
def Γt : List (Nat × TyI) := [
  (3, ⟨.int .i64, 1, 8, [.int .i64 0]⟩),
  (34, ⟨.struct [(0, 1, false)], 1, 24, [.slice none 0 0]⟩),
  (36, ⟨.struct [(0, 1, true), (1, 1, false), (2, 1, true), (3, 1, false), (4, 1, false)], 5, 88, [.slice none 0 0, .slice none 0 0, .slice none 0 0, .int .i64 0, .int .i64 0]⟩),
  (9, ⟨.string, 1, 16, [.string ByteArray.empty]⟩),
  (4, ⟨.bool, 1, 1, [.bool false]⟩),
  (49, ⟨.struct [(0, 3, true), (3, 1, false), (4, 1, false), (5, 1, false), (6, 1, false), (7, 1, false), (8, 1, false)], 9, 104, [.int .i64 0, .int .i64 0, .slice none 0 0, .int .i64 0, .slice none 0 0, .int .i64 0, .int .i64 0, .int .i64 0, .int .i64 0]⟩),
  (22, ⟨.slice 5, 1, 24, [.slice none 0 0]⟩),
  (32, ⟨.slice 9, 1, 24, [.slice none 0 0]⟩),
  (44, ⟨.struct [(0, 1, false), (1, 1, false), (2, 1, false)], 3, 40, [.int .i64 0, .int .i64 0, .slice none 0 0]⟩),
  (5, ⟨.int .u8, 1, 1, [.int .u8 0]⟩),
  (42, ⟨.slice 3, 1, 24, [.slice none 0 0]⟩),
  (176, ⟨.int .u32, 1, 4, [.int .u32 0]⟩),
  (95, ⟨.struct [(0, 1, false)], 1, 24, [.slice none 0 0]⟩),
  (161, ⟨.int .u64, 1, 8, [.int .u64 0]⟩),
  (31, ⟨.struct [(0, 1, false), (1, 1, false), (2, 1, false), (3, 1, false)], 4, 96, [.slice none 0 0, .slice none 0 0, .slice none 0 0, .slice none 0 0]⟩),
  (97, ⟨.struct [(0, 1, true), (1, 1, true)], 2, 48, [.slice none 0 0, .slice none 0 0]⟩),
  (26, ⟨.slice 94, 1, 24, [.slice none 0 0]⟩),
  (47, ⟨.slice 87, 1, 24, [.slice none 0 0]⟩),
  (83, ⟨.int .u64, 1, 8, [.int .u64 0]⟩),
  (29, ⟨.slice 36, 1, 24, [.slice none 0 0]⟩),
  (87, ⟨.struct [(0, 1, false)], 1, 24, [.slice none 0 0]⟩),
  (2, ⟨.int .i64, 1, 8, [.int .i64 0]⟩),
  (90, ⟨.struct [(0, 1, false), (1, 1, false), (2, 1, false)], 3, 40, [.slice none 0 0, .int .i64 0, .int .i64 0]⟩),
  (94, ⟨.struct [(0, 1, true), (1, 1, false)], 2, 32, [.slice none 0 0, .int .i64 0]⟩),
  (156, ⟨.slice 168, 1, 24, [.slice none 0 0]⟩),
  (28, ⟨.slice 34, 1, 24, [.slice none 0 0]⟩),
  (27, ⟨.slice 97, 1, 24, [.slice none 0 0]⟩),
  (168, ⟨.struct [(0, 1, false), (1, 1, false)], 2, 32, [.string ByteArray.empty, .string ByteArray.empty]⟩),
  (152, ⟨.slice 42, 1, 24, [.slice none 0 0]⟩),
  (119, ⟨.other, 1, 8, [.nilFunc]⟩),
  (115, ⟨.other, 1, 8, [.nilFunc]⟩),
  (141, ⟨.other, 1, 8, [.nilFunc]⟩),
  (74, ⟨.other, 1, 8, [.nilFunc]⟩),
  (127, ⟨.other, 1, 8, [.nilFunc]⟩),
  (170, ⟨.other, 1, 8, [.nilFunc]⟩)]
theorem ty3 : TyOk Tryz.prog 3 ⟨.int .i64, 1, 8, [.int .i64 0]⟩ := ⟨⟨Tryz.t3, _, _, by kernel_rfl, Tryz.underlying3, rfl, rfl, rfl, rfl, rfl⟩⟩
theorem ty34 : TyOk Tryz.prog 34 ⟨.struct [(0, 1, false)], 1, 24, [.slice none 0 0]⟩ := ⟨⟨Tryz.t34, _, _, by kernel_rfl, Tryz.underlying34, rfl, rfl, rfl, rfl, _, rfl, rfl, fun i o n g h => match i, o, n, g, h with
      | 0, o, n, g, h => by cases h; exact ⟨_, Tryz.t32, _, rfl, rfl, by kernel_rfl, rfl, Tryz.underlying32, rfl⟩
      | _ + 1, _, _, _, h => by simp at h⟩⟩
theorem ty36 : TyOk Tryz.prog 36 ⟨.struct [(0, 1, true), (1, 1, false), (2, 1, true), (3, 1, false), (4, 1, false)], 5, 88, [.slice none 0 0, .slice none 0 0, .slice none 0 0, .int .i64 0, .int .i64 0]⟩ := ⟨⟨Tryz.t36, _, _, by kernel_rfl, Tryz.underlying36, rfl, rfl, rfl, rfl, _, rfl, rfl, fun i o n g h => match i, o, n, g, h with
      | 0, o, n, g, h => by cases h; exact ⟨_, Tryz.t34, _, rfl, rfl, by kernel_rfl, rfl, Tryz.underlying34, rfl⟩
      | 1, o, n, g, h => by cases h; exact ⟨_, Tryz.t22, _, rfl, rfl, by kernel_rfl, rfl, Tryz.underlying22, rfl⟩
      | 2, o, n, g, h => by cases h; exact ⟨_, Tryz.t34, _, rfl, rfl, by kernel_rfl, rfl, Tryz.underlying34, rfl⟩
      | 3, o, n, g, h => by cases h; exact ⟨_, Tryz.t3, _, rfl, rfl, by kernel_rfl, rfl, Tryz.underlying3, rfl⟩
      | 4, o, n, g, h => by cases h; exact ⟨_, Tryz.t3, _, rfl, rfl, by kernel_rfl, rfl, Tryz.underlying3, rfl⟩
      | _ + 5, _, _, _, h => by simp at h⟩⟩
theorem ty9 : TyOk Tryz.prog 9 ⟨.string, 1, 16, [.string ByteArray.empty]⟩ := ⟨⟨Tryz.t9, _, _, by kernel_rfl, Tryz.underlying9, rfl, rfl, rfl, rfl, rfl⟩⟩
theorem ty4 : TyOk Tryz.prog 4 ⟨.bool, 1, 1, [.bool false]⟩ := ⟨⟨Tryz.t4, _, _, by kernel_rfl, Tryz.underlying4, rfl, rfl, rfl, rfl, rfl⟩⟩
theorem ty49 : TyOk Tryz.prog 49 ⟨.struct [(0, 3, true), (3, 1, false), (4, 1, false), (5, 1, false), (6, 1, false), (7, 1, false), (8, 1, false)], 9, 104, [.int .i64 0, .int .i64 0, .slice none 0 0, .int .i64 0, .slice none 0 0, .int .i64 0, .int .i64 0, .int .i64 0, .int .i64 0]⟩ := ⟨⟨Tryz.t49, _, _, by kernel_rfl, Tryz.underlying49, rfl, rfl, rfl, rfl, _, rfl, rfl, fun i o n g h => match i, o, n, g, h with
      | 0, o, n, g, h => by cases h; exact ⟨_, Tryz.t44, _, rfl, rfl, by kernel_rfl, rfl, Tryz.underlying44, rfl⟩
      | 1, o, n, g, h => by cases h; exact ⟨_, Tryz.t3, _, rfl, rfl, by kernel_rfl, rfl, Tryz.underlying3, rfl⟩
      | 2, o, n, g, h => by cases h; exact ⟨_, Tryz.t47, _, rfl, rfl, by kernel_rfl, rfl, Tryz.underlying47, rfl⟩
      | 3, o, n, g, h => by cases h; exact ⟨_, Tryz.t3, _, rfl, rfl, by kernel_rfl, rfl, Tryz.underlying3, rfl⟩
      | 4, o, n, g, h => by cases h; exact ⟨_, Tryz.t3, _, rfl, rfl, by kernel_rfl, rfl, Tryz.underlying3, rfl⟩
      | 5, o, n, g, h => by cases h; exact ⟨_, Tryz.t3, _, rfl, rfl, by kernel_rfl, rfl, Tryz.underlying3, rfl⟩
      | 6, o, n, g, h => by cases h; exact ⟨_, Tryz.t3, _, rfl, rfl, by kernel_rfl, rfl, Tryz.underlying3, rfl⟩
      | _ + 7, _, _, _, h => by simp at h⟩⟩
theorem ty22 : TyOk Tryz.prog 22 ⟨.slice 5, 1, 24, [.slice none 0 0]⟩ := ⟨⟨Tryz.t22, _, _, by kernel_rfl, Tryz.underlying22, rfl, rfl, rfl, rfl, rfl⟩⟩
theorem ty32 : TyOk Tryz.prog 32 ⟨.slice 9, 1, 24, [.slice none 0 0]⟩ := ⟨⟨Tryz.t32, _, _, by kernel_rfl, Tryz.underlying32, rfl, rfl, rfl, rfl, rfl⟩⟩
theorem ty44 : TyOk Tryz.prog 44 ⟨.struct [(0, 1, false), (1, 1, false), (2, 1, false)], 3, 40, [.int .i64 0, .int .i64 0, .slice none 0 0]⟩ := ⟨⟨Tryz.t44, _, _, by kernel_rfl, Tryz.underlying44, rfl, rfl, rfl, rfl, _, rfl, rfl, fun i o n g h => match i, o, n, g, h with
      | 0, o, n, g, h => by cases h; exact ⟨_, Tryz.t3, _, rfl, rfl, by kernel_rfl, rfl, Tryz.underlying3, rfl⟩
      | 1, o, n, g, h => by cases h; exact ⟨_, Tryz.t3, _, rfl, rfl, by kernel_rfl, rfl, Tryz.underlying3, rfl⟩
      | 2, o, n, g, h => by cases h; exact ⟨_, Tryz.t42, _, rfl, rfl, by kernel_rfl, rfl, Tryz.underlying42, rfl⟩
      | _ + 3, _, _, _, h => by simp at h⟩⟩
theorem ty5 : TyOk Tryz.prog 5 ⟨.int .u8, 1, 1, [.int .u8 0]⟩ := ⟨⟨Tryz.t5, _, _, by kernel_rfl, Tryz.underlying5, rfl, rfl, rfl, rfl, rfl⟩⟩
theorem ty42 : TyOk Tryz.prog 42 ⟨.slice 3, 1, 24, [.slice none 0 0]⟩ := ⟨⟨Tryz.t42, _, _, by kernel_rfl, Tryz.underlying42, rfl, rfl, rfl, rfl, rfl⟩⟩
theorem ty176 : TyOk Tryz.prog 176 ⟨.int .u32, 1, 4, [.int .u32 0]⟩ := ⟨⟨Tryz.t176, _, _, by kernel_rfl, Tryz.underlying176, rfl, rfl, rfl, rfl, rfl⟩⟩
theorem ty95 : TyOk Tryz.prog 95 ⟨.struct [(0, 1, false)], 1, 24, [.slice none 0 0]⟩ := ⟨⟨Tryz.t95, _, _, by kernel_rfl, Tryz.underlying95, rfl, rfl, rfl, rfl, _, rfl, rfl, fun i o n g h => match i, o, n, g, h with
      | 0, o, n, g, h => by cases h; exact ⟨_, Tryz.t32, _, rfl, rfl, by kernel_rfl, rfl, Tryz.underlying32, rfl⟩
      | _ + 1, _, _, _, h => by simp at h⟩⟩
theorem ty161 : TyOk Tryz.prog 161 ⟨.int .u64, 1, 8, [.int .u64 0]⟩ := ⟨⟨Tryz.t161, _, _, by kernel_rfl, Tryz.underlying161, rfl, rfl, rfl, rfl, rfl⟩⟩
theorem ty31 : TyOk Tryz.prog 31 ⟨.struct [(0, 1, false), (1, 1, false), (2, 1, false), (3, 1, false)], 4, 96, [.slice none 0 0, .slice none 0 0, .slice none 0 0, .slice none 0 0]⟩ := ⟨⟨Tryz.t31, _, _, by kernel_rfl, Tryz.underlying31, rfl, rfl, rfl, rfl, _, rfl, rfl, fun i o n g h => match i, o, n, g, h with
      | 0, o, n, g, h => by cases h; exact ⟨_, Tryz.t26, _, rfl, rfl, by kernel_rfl, rfl, Tryz.underlying26, rfl⟩
      | 1, o, n, g, h => by cases h; exact ⟨_, Tryz.t27, _, rfl, rfl, by kernel_rfl, rfl, Tryz.underlying27, rfl⟩
      | 2, o, n, g, h => by cases h; exact ⟨_, Tryz.t28, _, rfl, rfl, by kernel_rfl, rfl, Tryz.underlying28, rfl⟩
      | 3, o, n, g, h => by cases h; exact ⟨_, Tryz.t29, _, rfl, rfl, by kernel_rfl, rfl, Tryz.underlying29, rfl⟩
      | _ + 4, _, _, _, h => by simp at h⟩⟩
theorem ty97 : TyOk Tryz.prog 97 ⟨.struct [(0, 1, true), (1, 1, true)], 2, 48, [.slice none 0 0, .slice none 0 0]⟩ := ⟨⟨Tryz.t97, _, _, by kernel_rfl, Tryz.underlying97, rfl, rfl, rfl, rfl, _, rfl, rfl, fun i o n g h => match i, o, n, g, h with
      | 0, o, n, g, h => by cases h; exact ⟨_, Tryz.t95, _, rfl, rfl, by kernel_rfl, rfl, Tryz.underlying95, rfl⟩
      | 1, o, n, g, h => by cases h; exact ⟨_, Tryz.t95, _, rfl, rfl, by kernel_rfl, rfl, Tryz.underlying95, rfl⟩
      | _ + 2, _, _, _, h => by simp at h⟩⟩
theorem ty26 : TyOk Tryz.prog 26 ⟨.slice 94, 1, 24, [.slice none 0 0]⟩ := ⟨⟨Tryz.t26, _, _, by kernel_rfl, Tryz.underlying26, rfl, rfl, rfl, rfl, rfl⟩⟩
theorem ty47 : TyOk Tryz.prog 47 ⟨.slice 87, 1, 24, [.slice none 0 0]⟩ := ⟨⟨Tryz.t47, _, _, by kernel_rfl, Tryz.underlying47, rfl, rfl, rfl, rfl, rfl⟩⟩
theorem ty83 : TyOk Tryz.prog 83 ⟨.int .u64, 1, 8, [.int .u64 0]⟩ := ⟨⟨Tryz.t83, _, _, by kernel_rfl, Tryz.underlying83, rfl, rfl, rfl, rfl, rfl⟩⟩
theorem ty29 : TyOk Tryz.prog 29 ⟨.slice 36, 1, 24, [.slice none 0 0]⟩ := ⟨⟨Tryz.t29, _, _, by kernel_rfl, Tryz.underlying29, rfl, rfl, rfl, rfl, rfl⟩⟩
theorem ty87 : TyOk Tryz.prog 87 ⟨.struct [(0, 1, false)], 1, 24, [.slice none 0 0]⟩ := ⟨⟨Tryz.t87, _, _, by kernel_rfl, Tryz.underlying87, rfl, rfl, rfl, rfl, _, rfl, rfl, fun i o n g h => match i, o, n, g, h with
      | 0, o, n, g, h => by cases h; exact ⟨_, Tryz.t22, _, rfl, rfl, by kernel_rfl, rfl, Tryz.underlying22, rfl⟩
      | _ + 1, _, _, _, h => by simp at h⟩⟩
theorem ty2 : TyOk Tryz.prog 2 ⟨.int .i64, 1, 8, [.int .i64 0]⟩ := ⟨⟨Tryz.t2, _, _, by kernel_rfl, Tryz.underlying2, rfl, rfl, rfl, rfl, rfl⟩⟩
theorem ty90 : TyOk Tryz.prog 90 ⟨.struct [(0, 1, false), (1, 1, false), (2, 1, false)], 3, 40, [.slice none 0 0, .int .i64 0, .int .i64 0]⟩ := ⟨⟨Tryz.t90, _, _, by kernel_rfl, Tryz.underlying90, rfl, rfl, rfl, rfl, _, rfl, rfl, fun i o n g h => match i, o, n, g, h with
      | 0, o, n, g, h => by cases h; exact ⟨_, Tryz.t22, _, rfl, rfl, by kernel_rfl, rfl, Tryz.underlying22, rfl⟩
      | 1, o, n, g, h => by cases h; exact ⟨_, Tryz.t3, _, rfl, rfl, by kernel_rfl, rfl, Tryz.underlying3, rfl⟩
      | 2, o, n, g, h => by cases h; exact ⟨_, Tryz.t3, _, rfl, rfl, by kernel_rfl, rfl, Tryz.underlying3, rfl⟩
      | _ + 3, _, _, _, h => by simp at h⟩⟩
theorem ty94 : TyOk Tryz.prog 94 ⟨.struct [(0, 1, true), (1, 1, false)], 2, 32, [.slice none 0 0, .int .i64 0]⟩ := ⟨⟨Tryz.t94, _, _, by kernel_rfl, Tryz.underlying94, rfl, rfl, rfl, rfl, _, rfl, rfl, fun i o n g h => match i, o, n, g, h with
      | 0, o, n, g, h => by cases h; exact ⟨_, Tryz.t34, _, rfl, rfl, by kernel_rfl, rfl, Tryz.underlying34, rfl⟩
      | 1, o, n, g, h => by cases h; exact ⟨_, Tryz.t3, _, rfl, rfl, by kernel_rfl, rfl, Tryz.underlying3, rfl⟩
      | _ + 2, _, _, _, h => by simp at h⟩⟩
theorem ty156 : TyOk Tryz.prog 156 ⟨.slice 168, 1, 24, [.slice none 0 0]⟩ := ⟨⟨Tryz.t156, _, _, by kernel_rfl, Tryz.underlying156, rfl, rfl, rfl, rfl, rfl⟩⟩
theorem ty28 : TyOk Tryz.prog 28 ⟨.slice 34, 1, 24, [.slice none 0 0]⟩ := ⟨⟨Tryz.t28, _, _, by kernel_rfl, Tryz.underlying28, rfl, rfl, rfl, rfl, rfl⟩⟩
theorem ty27 : TyOk Tryz.prog 27 ⟨.slice 97, 1, 24, [.slice none 0 0]⟩ := ⟨⟨Tryz.t27, _, _, by kernel_rfl, Tryz.underlying27, rfl, rfl, rfl, rfl, rfl⟩⟩
theorem ty168 : TyOk Tryz.prog 168 ⟨.struct [(0, 1, false), (1, 1, false)], 2, 32, [.string ByteArray.empty, .string ByteArray.empty]⟩ := ⟨⟨Tryz.t168, _, _, by kernel_rfl, Tryz.underlying168, rfl, rfl, rfl, rfl, _, rfl, rfl, fun i o n g h => match i, o, n, g, h with
      | 0, o, n, g, h => by cases h; exact ⟨_, Tryz.t9, _, rfl, rfl, by kernel_rfl, rfl, Tryz.underlying9, rfl⟩
      | 1, o, n, g, h => by cases h; exact ⟨_, Tryz.t9, _, rfl, rfl, by kernel_rfl, rfl, Tryz.underlying9, rfl⟩
      | _ + 2, _, _, _, h => by simp at h⟩⟩
theorem ty152 : TyOk Tryz.prog 152 ⟨.slice 42, 1, 24, [.slice none 0 0]⟩ := ⟨⟨Tryz.t152, _, _, by kernel_rfl, Tryz.underlying152, rfl, rfl, rfl, rfl, rfl⟩⟩
theorem ty119 : TyOk Tryz.prog 119 ⟨.other, 1, 8, [.nilFunc]⟩ := ⟨⟨Tryz.t119, _, _, by kernel_rfl, Tryz.underlying119, rfl, rfl, rfl, rfl, rfl⟩⟩
theorem ty115 : TyOk Tryz.prog 115 ⟨.other, 1, 8, [.nilFunc]⟩ := ⟨⟨Tryz.t115, _, _, by kernel_rfl, Tryz.underlying115, rfl, rfl, rfl, rfl, rfl⟩⟩
theorem ty141 : TyOk Tryz.prog 141 ⟨.other, 1, 8, [.nilFunc]⟩ := ⟨⟨Tryz.t141, _, _, by kernel_rfl, Tryz.underlying141, rfl, rfl, rfl, rfl, rfl⟩⟩
theorem ty74 : TyOk Tryz.prog 74 ⟨.other, 1, 8, [.nilFunc]⟩ := ⟨⟨Tryz.t74, _, _, by kernel_rfl, Tryz.underlying74, rfl, rfl, rfl, rfl, rfl⟩⟩
theorem ty127 : TyOk Tryz.prog 127 ⟨.other, 1, 8, [.nilFunc]⟩ := ⟨⟨Tryz.t127, _, _, by kernel_rfl, Tryz.underlying127, rfl, rfl, rfl, rfl, rfl⟩⟩
theorem ty170 : TyOk Tryz.prog 170 ⟨.other, 1, 8, [.nilFunc]⟩ := ⟨⟨Tryz.t170, _, _, by kernel_rfl, Tryz.underlying170, rfl, rfl, rfl, rfl, rfl⟩⟩
theorem mixed : Tryz.prog.follows .mixedOrders = true := by kernel_rfl
theorem Γt_ok : ∀ x ∈ Γt, TyOk Tryz.prog x.1 x.2 := by
  intro x hx
  simp only [Γt, List.mem_cons, List.not_mem_nil, or_false] at hx
  rcases hx with rfl | rfl | rfl | rfl | rfl | rfl | rfl | rfl | rfl | rfl | rfl | rfl | rfl | rfl | rfl | rfl | rfl | rfl | rfl | rfl | rfl | rfl | rfl | rfl | rfl | rfl | rfl | rfl | rfl | rfl | rfl | rfl | rfl | rfl | rfl
  · exact ty3
  · exact ty34
  · exact ty36
  · exact ty9
  · exact ty4
  · exact ty49
  · exact ty22
  · exact ty32
  · exact ty44
  · exact ty5
  · exact ty42
  · exact ty176
  · exact ty95
  · exact ty161
  · exact ty31
  · exact ty97
  · exact ty26
  · exact ty47
  · exact ty83
  · exact ty29
  · exact ty87
  · exact ty2
  · exact ty90
  · exact ty94
  · exact ty156
  · exact ty28
  · exact ty27
  · exact ty168
  · exact ty152
  · exact ty119
  · exact ty115
  · exact ty141
  · exact ty74
  · exact ty127
  · exact ty170
def Γ : Env := { ty := Γt, io := [(7, [1000]), (21, [0]), (22, [0]), (23, [0]), (24, [0]), (43, [0]), (47, [0]), (48, [0])], esc := [90] }
theorem envOk : EnvOk Tryz.prog Γ := envOk_of Γt_ok
abbrev FO (f : Nat) (args outs : List Arg) (res : Arg) : Prop := FOk Tryz.prog f args outs res
abbrev FI (f : Nat) (fn : Func) : Prop := FnIs Tryz.prog f (fn.body.getD .skip) fn.results.toList fn.ntmps
end Go.Proofs.YtoekfmkbkffciaaGreatDoor
