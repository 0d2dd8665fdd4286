/- The table of types and of functions of this translation: no statement of the seat is proved here. No condition. -/
import Derived.Test.YtigkmijoefibiaaGreatVc
import Derived.Test.YtigkmijoefibiaaGreatChecked
import Derived.KernelRfl
set_option linter.all false
namespace Go.Proofs.YtigkmijoefibiaaGreat
open Go.Vs Go.Proofs
/-- The types of this program, as a small table. -/
def Γt : List (Nat × TyI) := [
  (3, ⟨.int .i64, 1, 8, [.int .i64 0]⟩),
  (40, ⟨.struct [(0, 1, false)], 1, 24, [.slice none 0 0]⟩),
  (77, ⟨.struct [(0, 1, false), (1, 1, false), (2, 1, false), (3, 1, false)], 4, 64, [.int .i64 0, .int .i64 0, .slice none 0 0, .slice none 0 0]⟩),
  (4, ⟨.bool, 1, 1, [.bool false]⟩),
  (36, ⟨.struct [(0, 1, false), (1, 1, false)], 2, 32, [.int .i64 0, .slice none 0 0]⟩),
  (32, ⟨.slice 3, 1, 24, [.slice none 0 0]⟩),
  (38, ⟨.slice 77, 1, 24, [.slice none 0 0]⟩),
  (71, ⟨.struct [(0, 1, true), (1, 1, false), (2, 1, false)], 3, 40, [.slice none 0 0, .int .i64 0, .int .i64 0]⟩),
  (57, ⟨.slice 71, 1, 24, [.slice none 0 0]⟩),
  (26, ⟨.slice 9, 1, 24, [.slice none 0 0]⟩),
  (51, ⟨.slice 5, 1, 24, [.slice none 0 0]⟩),
  (75, ⟨.slice 40, 1, 24, [.slice none 0 0]⟩),
  (164, ⟨.struct [(0, 1, false), (1, 1, false)], 2, 16, [.int .i64 0, .int .i64 0]⟩),
  (9, ⟨.string, 1, 16, [.string ByteArray.empty]⟩),
  (34, ⟨.slice 164, 1, 24, [.slice none 0 0]⟩),
  (197, ⟨.int .u64, 1, 8, [.int .u64 0]⟩),
  (218, ⟨.int .u64, 1, 8, [.int .u64 0]⟩),
  (5, ⟨.int .u8, 1, 1, [.int .u8 0]⟩),
  (87, ⟨.slice 153, 1, 24, [.slice none 0 0]⟩),
  (153, ⟨.struct [(0, 1, true), (1, 1, false)], 2, 32, [.slice none 0 0, .int .i64 0]⟩),
  (28, ⟨.struct [(0, 1, false)], 1, 24, [.slice none 0 0]⟩),
  (24, ⟨.struct [(0, 1, false), (1, 1, false)], 2, 32, [.int .i64 0, .slice none 0 0]⟩),
  (102, ⟨.struct [(0, 1, false), (1, 1, false), (2, 1, false), (3, 1, false)], 4, 64, [.int .i64 0, .int .i64 0, .slice none 0 0, .slice none 0 0]⟩),
  (179, ⟨.struct [(0, 1, false), (1, 1, false), (2, 1, false)], 3, 40, [.slice none 0 0, .int .i64 0, .int .i64 0]⟩),
  (215, ⟨.int .u32, 1, 4, [.int .u32 0]⟩),
  (100, ⟨.slice 28, 1, 24, [.slice none 0 0]⟩),
  (175, ⟨.other, 1, 8, [.nilFunc]⟩),
  (25, ⟨.slice 102, 1, 24, [.slice none 0 0]⟩),
  (22, ⟨.slice 166, 1, 24, [.slice none 0 0]⟩),
  (166, ⟨.struct [(0, 1, false), (1, 1, false)], 2, 16, [.int .i64 0, .int .i64 0]⟩),
  (129, ⟨.other, 1, 8, [.nilFunc]⟩),
  (171, ⟨.other, 1, 8, [.nilFunc]⟩),
  (188, ⟨.other, 1, 8, [.nilFunc]⟩),
  (96, ⟨.other, 1, 8, [.nilFunc]⟩),
  (112, ⟨.other, 1, 8, [.nilFunc]⟩),
  (45, ⟨.other, 1, 8, [.nilFunc]⟩),
  (210, ⟨.other, 1, 8, [.nilFunc]⟩)]
theorem ty3 : TyOk Tryz.prog 3 ⟨.int .i64, 1, 8, [.int .i64 0]⟩ := ⟨⟨Tryz.t3, _, _, by kernel_rfl, Tryz.underlying3, rfl, rfl, rfl, rfl, rfl⟩⟩
theorem ty40 : TyOk Tryz.prog 40 ⟨.struct [(0, 1, false)], 1, 24, [.slice none 0 0]⟩ := ⟨⟨Tryz.t40, _, _, by kernel_rfl, Tryz.underlying40, rfl, rfl, rfl, rfl, _, rfl, rfl, fun i o n g h => match i, o, n, g, h with
      | 0, o, n, g, h => by cases h; exact ⟨_, Tryz.t26, _, rfl, rfl, by kernel_rfl, rfl, Tryz.underlying26, rfl⟩
      | _ + 1, _, _, _, h => by simp at h⟩⟩
theorem ty77 : TyOk Tryz.prog 77 ⟨.struct [(0, 1, false), (1, 1, false), (2, 1, false), (3, 1, false)], 4, 64, [.int .i64 0, .int .i64 0, .slice none 0 0, .slice none 0 0]⟩ := ⟨⟨Tryz.t77, _, _, by kernel_rfl, Tryz.underlying77, rfl, rfl, rfl, rfl, _, rfl, rfl, fun i o n g h => match i, o, n, g, h with
      | 0, o, n, g, h => by cases h; exact ⟨_, Tryz.t3, _, rfl, rfl, by kernel_rfl, rfl, Tryz.underlying3, rfl⟩
      | 1, o, n, g, h => by cases h; exact ⟨_, Tryz.t3, _, rfl, rfl, by kernel_rfl, rfl, Tryz.underlying3, rfl⟩
      | 2, o, n, g, h => by cases h; exact ⟨_, Tryz.t32, _, rfl, rfl, by kernel_rfl, rfl, Tryz.underlying32, rfl⟩
      | 3, o, n, g, h => by cases h; exact ⟨_, Tryz.t75, _, rfl, rfl, by kernel_rfl, rfl, Tryz.underlying75, rfl⟩
      | _ + 4, _, _, _, h => by simp at h⟩⟩
theorem ty4 : TyOk Tryz.prog 4 ⟨.bool, 1, 1, [.bool false]⟩ := ⟨⟨Tryz.t4, _, _, by kernel_rfl, Tryz.underlying4, rfl, rfl, rfl, rfl, rfl⟩⟩
theorem ty36 : TyOk Tryz.prog 36 ⟨.struct [(0, 1, false), (1, 1, false)], 2, 32, [.int .i64 0, .slice none 0 0]⟩ := ⟨⟨Tryz.t36, _, _, by kernel_rfl, Tryz.underlying36, rfl, rfl, rfl, rfl, _, rfl, rfl, fun i o n g h => match i, o, n, g, h with
      | 0, o, n, g, h => by cases h; exact ⟨_, Tryz.t3, _, rfl, rfl, by kernel_rfl, rfl, Tryz.underlying3, rfl⟩
      | 1, o, n, g, h => by cases h; exact ⟨_, Tryz.t34, _, rfl, rfl, by kernel_rfl, rfl, Tryz.underlying34, rfl⟩
      | _ + 2, _, _, _, h => by simp at h⟩⟩
theorem ty32 : TyOk Tryz.prog 32 ⟨.slice 3, 1, 24, [.slice none 0 0]⟩ := ⟨⟨Tryz.t32, _, _, by kernel_rfl, Tryz.underlying32, rfl, rfl, rfl, rfl, rfl⟩⟩
theorem ty38 : TyOk Tryz.prog 38 ⟨.slice 77, 1, 24, [.slice none 0 0]⟩ := ⟨⟨Tryz.t38, _, _, by kernel_rfl, Tryz.underlying38, rfl, rfl, rfl, rfl, rfl⟩⟩
theorem ty71 : TyOk Tryz.prog 71 ⟨.struct [(0, 1, true), (1, 1, false), (2, 1, false)], 3, 40, [.slice none 0 0, .int .i64 0, .int .i64 0]⟩ := ⟨⟨Tryz.t71, _, _, by kernel_rfl, Tryz.underlying71, rfl, rfl, rfl, rfl, _, rfl, rfl, fun i o n g h => match i, o, n, g, h with
      | 0, o, n, g, h => by cases h; exact ⟨_, Tryz.t40, _, rfl, rfl, by kernel_rfl, rfl, Tryz.underlying40, rfl⟩
      | 1, o, n, g, h => by cases h; exact ⟨_, Tryz.t3, _, rfl, rfl, by kernel_rfl, rfl, Tryz.underlying3, rfl⟩
      | 2, o, n, g, h => by cases h; exact ⟨_, Tryz.t3, _, rfl, rfl, by kernel_rfl, rfl, Tryz.underlying3, rfl⟩
      | _ + 3, _, _, _, h => by simp at h⟩⟩
theorem ty57 : TyOk Tryz.prog 57 ⟨.slice 71, 1, 24, [.slice none 0 0]⟩ := ⟨⟨Tryz.t57, _, _, by kernel_rfl, Tryz.underlying57, rfl, rfl, rfl, rfl, rfl⟩⟩
theorem ty26 : TyOk Tryz.prog 26 ⟨.slice 9, 1, 24, [.slice none 0 0]⟩ := ⟨⟨Tryz.t26, _, _, by kernel_rfl, Tryz.underlying26, rfl, rfl, rfl, rfl, rfl⟩⟩
theorem ty51 : TyOk Tryz.prog 51 ⟨.slice 5, 1, 24, [.slice none 0 0]⟩ := ⟨⟨Tryz.t51, _, _, by kernel_rfl, Tryz.underlying51, rfl, rfl, rfl, rfl, rfl⟩⟩
theorem ty75 : TyOk Tryz.prog 75 ⟨.slice 40, 1, 24, [.slice none 0 0]⟩ := ⟨⟨Tryz.t75, _, _, by kernel_rfl, Tryz.underlying75, rfl, rfl, rfl, rfl, rfl⟩⟩
theorem ty164 : TyOk Tryz.prog 164 ⟨.struct [(0, 1, false), (1, 1, false)], 2, 16, [.int .i64 0, .int .i64 0]⟩ := ⟨⟨Tryz.t164, _, _, by kernel_rfl, Tryz.underlying164, rfl, rfl, rfl, rfl, _, rfl, rfl, fun i o n g h => match i, o, n, g, h with
      | 0, o, n, g, h => by cases h; exact ⟨_, Tryz.t3, _, rfl, rfl, by kernel_rfl, rfl, Tryz.underlying3, rfl⟩
      | 1, o, n, g, h => by cases h; exact ⟨_, Tryz.t3, _, rfl, rfl, by kernel_rfl, rfl, Tryz.underlying3, rfl⟩
      | _ + 2, _, _, _, h => by simp at h⟩⟩
theorem ty9 : TyOk Tryz.prog 9 ⟨.string, 1, 16, [.string ByteArray.empty]⟩ := ⟨⟨Tryz.t9, _, _, by kernel_rfl, Tryz.underlying9, rfl, rfl, rfl, rfl, rfl⟩⟩
theorem ty34 : TyOk Tryz.prog 34 ⟨.slice 164, 1, 24, [.slice none 0 0]⟩ := ⟨⟨Tryz.t34, _, _, by kernel_rfl, Tryz.underlying34, rfl, rfl, rfl, rfl, rfl⟩⟩
theorem ty197 : TyOk Tryz.prog 197 ⟨.int .u64, 1, 8, [.int .u64 0]⟩ := ⟨⟨Tryz.t197, _, _, by kernel_rfl, Tryz.underlying197, rfl, rfl, rfl, rfl, rfl⟩⟩
theorem ty218 : TyOk Tryz.prog 218 ⟨.int .u64, 1, 8, [.int .u64 0]⟩ := ⟨⟨Tryz.t218, _, _, by kernel_rfl, Tryz.underlying218, rfl, rfl, rfl, rfl, rfl⟩⟩
theorem ty5 : TyOk Tryz.prog 5 ⟨.int .u8, 1, 1, [.int .u8 0]⟩ := ⟨⟨Tryz.t5, _, _, by kernel_rfl, Tryz.underlying5, rfl, rfl, rfl, rfl, rfl⟩⟩
theorem ty87 : TyOk Tryz.prog 87 ⟨.slice 153, 1, 24, [.slice none 0 0]⟩ := ⟨⟨Tryz.t87, _, _, by kernel_rfl, Tryz.underlying87, rfl, rfl, rfl, rfl, rfl⟩⟩
theorem ty153 : TyOk Tryz.prog 153 ⟨.struct [(0, 1, true), (1, 1, false)], 2, 32, [.slice none 0 0, .int .i64 0]⟩ := ⟨⟨Tryz.t153, _, _, by kernel_rfl, Tryz.underlying153, rfl, rfl, rfl, rfl, _, rfl, rfl, fun i o n g h => match i, o, n, g, h with
      | 0, o, n, g, h => by cases h; exact ⟨_, Tryz.t40, _, rfl, rfl, by kernel_rfl, rfl, Tryz.underlying40, rfl⟩
      | 1, o, n, g, h => by cases h; exact ⟨_, Tryz.t3, _, rfl, rfl, by kernel_rfl, rfl, Tryz.underlying3, rfl⟩
      | _ + 2, _, _, _, h => by simp at h⟩⟩
theorem ty28 : TyOk Tryz.prog 28 ⟨.struct [(0, 1, false)], 1, 24, [.slice none 0 0]⟩ := ⟨⟨Tryz.t28, _, _, by kernel_rfl, Tryz.underlying28, rfl, rfl, rfl, rfl, _, rfl, rfl, fun i o n g h => match i, o, n, g, h with
      | 0, o, n, g, h => by cases h; exact ⟨_, Tryz.t26, _, rfl, rfl, by kernel_rfl, rfl, Tryz.underlying26, rfl⟩
      | _ + 1, _, _, _, h => by simp at h⟩⟩
theorem ty24 : TyOk Tryz.prog 24 ⟨.struct [(0, 1, false), (1, 1, false)], 2, 32, [.int .i64 0, .slice none 0 0]⟩ := ⟨⟨Tryz.t24, _, _, by kernel_rfl, Tryz.underlying24, rfl, rfl, rfl, rfl, _, rfl, rfl, fun i o n g h => match i, o, n, g, h with
      | 0, o, n, g, h => by cases h; exact ⟨_, Tryz.t3, _, rfl, rfl, by kernel_rfl, rfl, Tryz.underlying3, rfl⟩
      | 1, o, n, g, h => by cases h; exact ⟨_, Tryz.t22, _, rfl, rfl, by kernel_rfl, rfl, Tryz.underlying22, rfl⟩
      | _ + 2, _, _, _, h => by simp at h⟩⟩
theorem ty102 : TyOk Tryz.prog 102 ⟨.struct [(0, 1, false), (1, 1, false), (2, 1, false), (3, 1, false)], 4, 64, [.int .i64 0, .int .i64 0, .slice none 0 0, .slice none 0 0]⟩ := ⟨⟨Tryz.t102, _, _, by kernel_rfl, Tryz.underlying102, rfl, rfl, rfl, rfl, _, rfl, rfl, fun i o n g h => match i, o, n, g, h with
      | 0, o, n, g, h => by cases h; exact ⟨_, Tryz.t3, _, rfl, rfl, by kernel_rfl, rfl, Tryz.underlying3, rfl⟩
      | 1, o, n, g, h => by cases h; exact ⟨_, Tryz.t3, _, rfl, rfl, by kernel_rfl, rfl, Tryz.underlying3, rfl⟩
      | 2, o, n, g, h => by cases h; exact ⟨_, Tryz.t32, _, rfl, rfl, by kernel_rfl, rfl, Tryz.underlying32, rfl⟩
      | 3, o, n, g, h => by cases h; exact ⟨_, Tryz.t100, _, rfl, rfl, by kernel_rfl, rfl, Tryz.underlying100, rfl⟩
      | _ + 4, _, _, _, h => by simp at h⟩⟩
theorem ty179 : TyOk Tryz.prog 179 ⟨.struct [(0, 1, false), (1, 1, false), (2, 1, false)], 3, 40, [.slice none 0 0, .int .i64 0, .int .i64 0]⟩ := ⟨⟨Tryz.t179, _, _, by kernel_rfl, Tryz.underlying179, rfl, rfl, rfl, rfl, _, rfl, rfl, fun i o n g h => match i, o, n, g, h with
      | 0, o, n, g, h => by cases h; exact ⟨_, Tryz.t51, _, rfl, rfl, by kernel_rfl, rfl, Tryz.underlying51, rfl⟩
      | 1, o, n, g, h => by cases h; exact ⟨_, Tryz.t3, _, rfl, rfl, by kernel_rfl, rfl, Tryz.underlying3, rfl⟩
      | 2, o, n, g, h => by cases h; exact ⟨_, Tryz.t3, _, rfl, rfl, by kernel_rfl, rfl, Tryz.underlying3, rfl⟩
      | _ + 3, _, _, _, h => by simp at h⟩⟩
theorem ty215 : TyOk Tryz.prog 215 ⟨.int .u32, 1, 4, [.int .u32 0]⟩ := ⟨⟨Tryz.t215, _, _, by kernel_rfl, Tryz.underlying215, rfl, rfl, rfl, rfl, rfl⟩⟩
theorem ty100 : TyOk Tryz.prog 100 ⟨.slice 28, 1, 24, [.slice none 0 0]⟩ := ⟨⟨Tryz.t100, _, _, by kernel_rfl, Tryz.underlying100, rfl, rfl, rfl, rfl, rfl⟩⟩
theorem ty175 : TyOk Tryz.prog 175 ⟨.other, 1, 8, [.nilFunc]⟩ := ⟨⟨Tryz.t175, _, _, by kernel_rfl, Tryz.underlying175, rfl, rfl, rfl, rfl, rfl⟩⟩
theorem ty25 : TyOk Tryz.prog 25 ⟨.slice 102, 1, 24, [.slice none 0 0]⟩ := ⟨⟨Tryz.t25, _, _, by kernel_rfl, Tryz.underlying25, rfl, rfl, rfl, rfl, rfl⟩⟩
theorem ty22 : TyOk Tryz.prog 22 ⟨.slice 166, 1, 24, [.slice none 0 0]⟩ := ⟨⟨Tryz.t22, _, _, by kernel_rfl, Tryz.underlying22, rfl, rfl, rfl, rfl, rfl⟩⟩
theorem ty166 : TyOk Tryz.prog 166 ⟨.struct [(0, 1, false), (1, 1, false)], 2, 16, [.int .i64 0, .int .i64 0]⟩ := ⟨⟨Tryz.t166, _, _, by kernel_rfl, Tryz.underlying166, rfl, rfl, rfl, rfl, _, rfl, rfl, fun i o n g h => match i, o, n, g, h with
      | 0, o, n, g, h => by cases h; exact ⟨_, Tryz.t3, _, rfl, rfl, by kernel_rfl, rfl, Tryz.underlying3, rfl⟩
      | 1, o, n, g, h => by cases h; exact ⟨_, Tryz.t3, _, rfl, rfl, by kernel_rfl, rfl, Tryz.underlying3, rfl⟩
      | _ + 2, _, _, _, h => by simp at h⟩⟩
theorem ty129 : TyOk Tryz.prog 129 ⟨.other, 1, 8, [.nilFunc]⟩ := ⟨⟨Tryz.t129, _, _, by kernel_rfl, Tryz.underlying129, rfl, rfl, rfl, rfl, rfl⟩⟩
theorem ty171 : TyOk Tryz.prog 171 ⟨.other, 1, 8, [.nilFunc]⟩ := ⟨⟨Tryz.t171, _, _, by kernel_rfl, Tryz.underlying171, rfl, rfl, rfl, rfl, rfl⟩⟩
theorem ty188 : TyOk Tryz.prog 188 ⟨.other, 1, 8, [.nilFunc]⟩ := ⟨⟨Tryz.t188, _, _, by kernel_rfl, Tryz.underlying188, rfl, rfl, rfl, rfl, rfl⟩⟩
theorem ty96 : TyOk Tryz.prog 96 ⟨.other, 1, 8, [.nilFunc]⟩ := ⟨⟨Tryz.t96, _, _, by kernel_rfl, Tryz.underlying96, rfl, rfl, rfl, rfl, rfl⟩⟩
theorem ty112 : TyOk Tryz.prog 112 ⟨.other, 1, 8, [.nilFunc]⟩ := ⟨⟨Tryz.t112, _, _, by kernel_rfl, Tryz.underlying112, rfl, rfl, rfl, rfl, rfl⟩⟩
theorem ty45 : TyOk Tryz.prog 45 ⟨.other, 1, 8, [.nilFunc]⟩ := ⟨⟨Tryz.t45, _, _, by kernel_rfl, Tryz.underlying45, rfl, rfl, rfl, rfl, rfl⟩⟩
theorem ty210 : TyOk Tryz.prog 210 ⟨.other, 1, 8, [.nilFunc]⟩ := ⟨⟨Tryz.t210, _, _, by kernel_rfl, Tryz.underlying210, rfl, rfl, rfl, rfl, rfl⟩⟩
theorem mixed : Tryz.prog.follows .mixedOrders = true := by kernel_rfl
theorem Γt_ok : ∀ x ∈ Γt, TyOk Tryz.prog x.1 x.2 := by
  intro x hx
  simp only [Γt, List.mem_cons, List.not_mem_nil, or_false] at hx
  rcases hx with rfl | rfl | rfl | rfl | rfl | rfl | rfl | rfl | rfl | rfl | rfl | rfl | rfl | rfl | rfl | rfl | rfl | rfl | rfl | rfl | rfl | rfl | rfl | rfl | rfl | rfl | rfl | rfl | rfl | rfl | rfl | rfl | rfl | rfl | rfl | rfl | rfl
  · exact ty3
  · exact ty40
  · exact ty77
  · exact ty4
  · exact ty36
  · exact ty32
  · exact ty38
  · exact ty71
  · exact ty57
  · exact ty26
  · exact ty51
  · exact ty75
  · exact ty164
  · exact ty9
  · exact ty34
  · exact ty197
  · exact ty218
  · exact ty5
  · exact ty87
  · exact ty153
  · exact ty28
  · exact ty24
  · exact ty102
  · exact ty179
  · exact ty215
  · exact ty100
  · exact ty175
  · exact ty25
  · exact ty22
  · exact ty166
  · exact ty129
  · exact ty171
  · exact ty188
  · exact ty96
  · exact ty112
  · exact ty45
  · exact ty210
def Γ : Env := { ty := Γt, io := [(18, [0]), (19, [0]), (20, [0]), (21, [0]), (47, [1000]), (85, [0]), (86, [0]), (87, [0]), (89, [0]), (90, [0]), (91, [0]), (92, [0]), (112, [0]), (113, [0]), (118, [0, 2]), (123, [0]), (124, [0]), (130, [0]), (131, [0]), (132, [0]), (133, [0]), (156, [1000]), (161, [0]), (164, [0]), (172, [0]), (173, [0]), (175, [0]), (191, [0]), (200, [0]), (204, [1000]), (213, [0]), (220, [0]), (228, [0])], esc := [179] }
theorem envOk : EnvOk Tryz.prog Γ := envOk_of Γt_ok
abbrev FO (f : Nat) (args outs : List Arg) (res : Arg) : Prop := FOk Tryz.prog f args outs res
abbrev FI (f : Nat) (fn : Func) : Prop := FnIs Tryz.prog f (fn.body.getD .skip) fn.results.toList fn.ntmps
end Go.Proofs.YtigkmijoefibiaaGreat
