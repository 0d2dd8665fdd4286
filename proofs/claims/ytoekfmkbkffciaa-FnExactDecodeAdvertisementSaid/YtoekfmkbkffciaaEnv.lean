/- The table of types and of functions of this translation: no statement of the seat is proved here. No condition. -/
import Derived.Test.YtoekfmkbkffciaaVc
import Derived.Test.YtoekfmkbkffciaaChecked
import Derived.KernelRfl
set_option linter.all false
namespace Go.Proofs.Ytoekfmkbkffciaa
open Go.Vs Go.Proofs
/-- The types of this program, as a small table. -/
def Γt : List (Nat × TyI) := [
  (3, ⟨.int .i64, 1, 8, [.int .i64 0]⟩),
  (26, ⟨.struct [(0, 1, false), (1, 1, false), (2, 1, false), (3, 1, false)], 4, 64, [.int .i64 0, .int .i64 0, .slice none 0 0, .slice none 0 0]⟩),
  (4, ⟨.bool, 1, 1, [.bool false]⟩),
  (41, ⟨.struct [(0, 1, false)], 1, 24, [.slice none 0 0]⟩),
  (23, ⟨.slice 3, 1, 24, [.slice none 0 0]⟩),
  (22, ⟨.slice 5, 1, 24, [.slice none 0 0]⟩),
  (24, ⟨.slice 41, 1, 24, [.slice none 0 0]⟩),
  (39, ⟨.slice 9, 1, 24, [.slice none 0 0]⟩),
  (5, ⟨.int .u8, 1, 1, [.int .u8 0]⟩),
  (9, ⟨.string, 1, 16, [.string ByteArray.empty]⟩),
  (52, ⟨.other, 1, 8, [.nilFunc]⟩),
  (56, ⟨.other, 1, 8, [.nilFunc]⟩)]
theorem ty3 : TyOk Try.prog 3 ⟨.int .i64, 1, 8, [.int .i64 0]⟩ := ⟨⟨Try.t3, _, _, by kernel_rfl, Try.underlying3, rfl, rfl, rfl, rfl, rfl⟩⟩
theorem ty26 : TyOk Try.prog 26 ⟨.struct [(0, 1, false), (1, 1, false), (2, 1, false), (3, 1, false)], 4, 64, [.int .i64 0, .int .i64 0, .slice none 0 0, .slice none 0 0]⟩ := ⟨⟨Try.t26, _, _, by kernel_rfl, Try.underlying26, rfl, rfl, rfl, rfl, _, rfl, rfl, fun i o n g h => match i, o, n, g, h with
      | 0, o, n, g, h => by cases h; exact ⟨_, Try.t3, _, rfl, rfl, by kernel_rfl, rfl, Try.underlying3, rfl⟩
      | 1, o, n, g, h => by cases h; exact ⟨_, Try.t3, _, rfl, rfl, by kernel_rfl, rfl, Try.underlying3, rfl⟩
      | 2, o, n, g, h => by cases h; exact ⟨_, Try.t23, _, rfl, rfl, by kernel_rfl, rfl, Try.underlying23, rfl⟩
      | 3, o, n, g, h => by cases h; exact ⟨_, Try.t24, _, rfl, rfl, by kernel_rfl, rfl, Try.underlying24, rfl⟩
      | _ + 4, _, _, _, h => by simp at h⟩⟩
theorem ty4 : TyOk Try.prog 4 ⟨.bool, 1, 1, [.bool false]⟩ := ⟨⟨Try.t4, _, _, by kernel_rfl, Try.underlying4, rfl, rfl, rfl, rfl, rfl⟩⟩
theorem ty41 : TyOk Try.prog 41 ⟨.struct [(0, 1, false)], 1, 24, [.slice none 0 0]⟩ := ⟨⟨Try.t41, _, _, by kernel_rfl, Try.underlying41, rfl, rfl, rfl, rfl, _, rfl, rfl, fun i o n g h => match i, o, n, g, h with
      | 0, o, n, g, h => by cases h; exact ⟨_, Try.t39, _, rfl, rfl, by kernel_rfl, rfl, Try.underlying39, rfl⟩
      | _ + 1, _, _, _, h => by simp at h⟩⟩
theorem ty23 : TyOk Try.prog 23 ⟨.slice 3, 1, 24, [.slice none 0 0]⟩ := ⟨⟨Try.t23, _, _, by kernel_rfl, Try.underlying23, rfl, rfl, rfl, rfl, rfl⟩⟩
theorem ty22 : TyOk Try.prog 22 ⟨.slice 5, 1, 24, [.slice none 0 0]⟩ := ⟨⟨Try.t22, _, _, by kernel_rfl, Try.underlying22, rfl, rfl, rfl, rfl, rfl⟩⟩
theorem ty24 : TyOk Try.prog 24 ⟨.slice 41, 1, 24, [.slice none 0 0]⟩ := ⟨⟨Try.t24, _, _, by kernel_rfl, Try.underlying24, rfl, rfl, rfl, rfl, rfl⟩⟩
theorem ty39 : TyOk Try.prog 39 ⟨.slice 9, 1, 24, [.slice none 0 0]⟩ := ⟨⟨Try.t39, _, _, by kernel_rfl, Try.underlying39, rfl, rfl, rfl, rfl, rfl⟩⟩
theorem ty5 : TyOk Try.prog 5 ⟨.int .u8, 1, 1, [.int .u8 0]⟩ := ⟨⟨Try.t5, _, _, by kernel_rfl, Try.underlying5, rfl, rfl, rfl, rfl, rfl⟩⟩
theorem ty9 : TyOk Try.prog 9 ⟨.string, 1, 16, [.string ByteArray.empty]⟩ := ⟨⟨Try.t9, _, _, by kernel_rfl, Try.underlying9, rfl, rfl, rfl, rfl, rfl⟩⟩
theorem ty52 : TyOk Try.prog 52 ⟨.other, 1, 8, [.nilFunc]⟩ := ⟨⟨Try.t52, _, _, by kernel_rfl, Try.underlying52, rfl, rfl, rfl, rfl, rfl⟩⟩
theorem ty56 : TyOk Try.prog 56 ⟨.other, 1, 8, [.nilFunc]⟩ := ⟨⟨Try.t56, _, _, by kernel_rfl, Try.underlying56, rfl, rfl, rfl, rfl, rfl⟩⟩
theorem mixed : Try.prog.follows .mixedOrders = true := by kernel_rfl
theorem Γt_ok : ∀ x ∈ Γt, TyOk Try.prog x.1 x.2 := by
  intro x hx
  simp only [Γt, List.mem_cons, List.not_mem_nil, or_false] at hx
  rcases hx with rfl | rfl | rfl | rfl | rfl | rfl | rfl | rfl | rfl | rfl | rfl | rfl
  · exact ty3
  · exact ty26
  · exact ty4
  · exact ty41
  · exact ty23
  · exact ty22
  · exact ty24
  · exact ty39
  · exact ty5
  · exact ty9
  · exact ty52
  · exact ty56
def Γ : Env := { ty := Γt, io := [(9, [0]), (10, [0]), (21, [0]), (22, [0]), (35, [0])], esc := [] }
theorem envOk : EnvOk Try.prog Γ := envOk_of Γt_ok
abbrev FO (f : Nat) (args outs : List Arg) (res : Arg) : Prop := FOk Try.prog f args outs res
abbrev FI (f : Nat) (fn : Func) : Prop := FnIs Try.prog f (fn.body.getD .skip) fn.results.toList fn.ntmps
end Go.Proofs.Ytoekfmkbkffciaa
