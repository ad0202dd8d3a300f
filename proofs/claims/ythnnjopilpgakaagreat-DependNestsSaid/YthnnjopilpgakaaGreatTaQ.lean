/-
  The ghost machine's table of this seat holds of the program: printed by gen.py (a program of this session's own).
-/
import Derived.Test.YthnnjopilpgakaaGreatTaP
import Derived.Test.YthnnjopilpgakaaGreatGhC
import Derived.KernelRfl
import Derived.WalkKit
set_option linter.unusedVariables false
set_option linter.unusedSimpArgs false
namespace Go.Proofs.YthnnjopilpgakaaGreat
open Go.Gh
theorem ty1 : TyOK Tryz.prog 1 ⟨1, false, 8, [.nilFunc], .other, false⟩ :=
  tyOK_of ((Tryz.prog.info? 1).getD default) (((Tryz.prog.info? 1).bind (·.zero)).getD default) ((Tryz.prog.underlying 1).getD default) (by kernel_rfl) (by kernel_rfl) (by kernel_rfl) (by kernel_rfl) (by kernel_rfl) (by kernel_rfl) (by kernel_rfl) (trivial) (by kernel_rfl) (by kernel_rfl) (by kernel_rfl)
theorem ty2 : TyOK Tryz.prog 2 ⟨1, false, 8, [.int .i64 0], .int .i64, false⟩ :=
  tyOK_of ((Tryz.prog.info? 2).getD default) (((Tryz.prog.info? 2).bind (·.zero)).getD default) ((Tryz.prog.underlying 2).getD default) (by kernel_rfl) (by kernel_rfl) (by kernel_rfl) (by kernel_rfl) (by kernel_rfl) (by kernel_rfl) (by kernel_rfl) (show (Tryz.prog.underlying 2).getD default = (.int .i64 : TypeDesc) from by kernel_rfl) (by kernel_rfl) (by kernel_rfl) (by kernel_rfl)
theorem ty3 : TyOK Tryz.prog 3 ⟨1, false, 8, [.int .i64 0], .int .i64, false⟩ :=
  tyOK_of ((Tryz.prog.info? 3).getD default) (((Tryz.prog.info? 3).bind (·.zero)).getD default) ((Tryz.prog.underlying 3).getD default) (by kernel_rfl) (by kernel_rfl) (by kernel_rfl) (by kernel_rfl) (by kernel_rfl) (by kernel_rfl) (by kernel_rfl) (show (Tryz.prog.underlying 3).getD default = (.int .i64 : TypeDesc) from by kernel_rfl) (by kernel_rfl) (by kernel_rfl) (by kernel_rfl)
theorem ty4 : TyOK Tryz.prog 4 ⟨1, false, 1, [.bool false], .bool, false⟩ :=
  tyOK_of ((Tryz.prog.info? 4).getD default) (((Tryz.prog.info? 4).bind (·.zero)).getD default) ((Tryz.prog.underlying 4).getD default) (by kernel_rfl) (by kernel_rfl) (by kernel_rfl) (by kernel_rfl) (by kernel_rfl) (by kernel_rfl) (by kernel_rfl) (show (Tryz.prog.underlying 4).getD default = (.bool : TypeDesc) from by kernel_rfl) (by kernel_rfl) (by kernel_rfl) (by kernel_rfl)
theorem ty5 : TyOK Tryz.prog 5 ⟨1, false, 1, [.int .u8 0], .int .u8, false⟩ :=
  tyOK_of ((Tryz.prog.info? 5).getD default) (((Tryz.prog.info? 5).bind (·.zero)).getD default) ((Tryz.prog.underlying 5).getD default) (by kernel_rfl) (by kernel_rfl) (by kernel_rfl) (by kernel_rfl) (by kernel_rfl) (by kernel_rfl) (by kernel_rfl) (show (Tryz.prog.underlying 5).getD default = (.int .u8 : TypeDesc) from by kernel_rfl) (by kernel_rfl) (by kernel_rfl) (by kernel_rfl)
theorem ty6 : TyOK Tryz.prog 6 ⟨1, false, 1, [.int .u8 0], .int .u8, false⟩ :=
  tyOK_of ((Tryz.prog.info? 6).getD default) (((Tryz.prog.info? 6).bind (·.zero)).getD default) ((Tryz.prog.underlying 6).getD default) (by kernel_rfl) (by kernel_rfl) (by kernel_rfl) (by kernel_rfl) (by kernel_rfl) (by kernel_rfl) (by kernel_rfl) (show (Tryz.prog.underlying 6).getD default = (.int .u8 : TypeDesc) from by kernel_rfl) (by kernel_rfl) (by kernel_rfl) (by kernel_rfl)
theorem ty9 : TyOK Tryz.prog 9 ⟨1, false, 16, [.string ⟨#[]⟩], .other, false⟩ :=
  tyOK_of ((Tryz.prog.info? 9).getD default) (((Tryz.prog.info? 9).bind (·.zero)).getD default) ((Tryz.prog.underlying 9).getD default) (by kernel_rfl) (by kernel_rfl) (by kernel_rfl) (by kernel_rfl) (by kernel_rfl) (by kernel_rfl) (by kernel_rfl) (trivial) (by kernel_rfl) (by kernel_rfl) (by kernel_rfl)
theorem ty20 : TyOK Tryz.prog 20 ⟨1, false, 16, [.nilIface], .other, false⟩ :=
  tyOK_of ((Tryz.prog.info? 20).getD default) (((Tryz.prog.info? 20).bind (·.zero)).getD default) ((Tryz.prog.underlying 20).getD default) (by kernel_rfl) (by kernel_rfl) (by kernel_rfl) (by kernel_rfl) (by kernel_rfl) (by kernel_rfl) (by kernel_rfl) (trivial) (by kernel_rfl) (by kernel_rfl) (by kernel_rfl)
theorem ty22 : TyOK Tryz.prog 22 ⟨1, false, 24, [.slice none 0 0], .slice 125, false⟩ :=
  tyOK_of ((Tryz.prog.info? 22).getD default) (((Tryz.prog.info? 22).bind (·.zero)).getD default) ((Tryz.prog.underlying 22).getD default) (by kernel_rfl) (by kernel_rfl) (by kernel_rfl) (by kernel_rfl) (by kernel_rfl) (by kernel_rfl) (by kernel_rfl) (show (Tryz.prog.underlying 22).getD default = (.slice 125 : TypeDesc) from by kernel_rfl) (by kernel_rfl) (by kernel_rfl) (by kernel_rfl)
theorem ty23 : TyOK Tryz.prog 23 ⟨1, false, 24, [.slice none 0 0], .slice 125, false⟩ :=
  tyOK_of ((Tryz.prog.info? 23).getD default) (((Tryz.prog.info? 23).bind (·.zero)).getD default) ((Tryz.prog.underlying 23).getD default) (by kernel_rfl) (by kernel_rfl) (by kernel_rfl) (by kernel_rfl) (by kernel_rfl) (by kernel_rfl) (by kernel_rfl) (show (Tryz.prog.underlying 23).getD default = (.slice 125 : TypeDesc) from by kernel_rfl) (by kernel_rfl) (by kernel_rfl) (by kernel_rfl)
theorem ty24 : TyOK Tryz.prog 24 ⟨1, false, 24, [.slice none 0 0], .slice 90, false⟩ :=
  tyOK_of ((Tryz.prog.info? 24).getD default) (((Tryz.prog.info? 24).bind (·.zero)).getD default) ((Tryz.prog.underlying 24).getD default) (by kernel_rfl) (by kernel_rfl) (by kernel_rfl) (by kernel_rfl) (by kernel_rfl) (by kernel_rfl) (by kernel_rfl) (show (Tryz.prog.underlying 24).getD default = (.slice 90 : TypeDesc) from by kernel_rfl) (by kernel_rfl) (by kernel_rfl) (by kernel_rfl)
theorem ty26 : TyOK Tryz.prog 26 ⟨2, true, 16, [.int .i64 0, .int .i64 0], .struct [(0, 3), (1, 3)], true⟩ :=
  tyOK_of ((Tryz.prog.info? 26).getD default) (((Tryz.prog.info? 26).bind (·.zero)).getD default) ((Tryz.prog.underlying 26).getD default) (by kernel_rfl) (by kernel_rfl) (by kernel_rfl) (by kernel_rfl) (by kernel_rfl) (by kernel_rfl) (by kernel_rfl) (⟨match (Tryz.prog.underlying 26).getD default with | .struct F => F | _ => #[], by kernel_rfl, by kernel_rfl⟩) (by kernel_rfl) (by kernel_rfl) (by kernel_rfl)
theorem ty29 : TyOK Tryz.prog 29 ⟨1, false, 24, [.slice none 0 0], .slice 117, false⟩ :=
  tyOK_of ((Tryz.prog.info? 29).getD default) (((Tryz.prog.info? 29).bind (·.zero)).getD default) ((Tryz.prog.underlying 29).getD default) (by kernel_rfl) (by kernel_rfl) (by kernel_rfl) (by kernel_rfl) (by kernel_rfl) (by kernel_rfl) (by kernel_rfl) (show (Tryz.prog.underlying 29).getD default = (.slice 117 : TypeDesc) from by kernel_rfl) (by kernel_rfl) (by kernel_rfl) (by kernel_rfl)
theorem ty30 : TyOK Tryz.prog 30 ⟨1, false, 8, [.int .i64 0], .int .i64, false⟩ :=
  tyOK_of ((Tryz.prog.info? 30).getD default) (((Tryz.prog.info? 30).bind (·.zero)).getD default) ((Tryz.prog.underlying 30).getD default) (by kernel_rfl) (by kernel_rfl) (by kernel_rfl) (by kernel_rfl) (by kernel_rfl) (by kernel_rfl) (by kernel_rfl) (show (Tryz.prog.underlying 30).getD default = (.int .i64 : TypeDesc) from by kernel_rfl) (by kernel_rfl) (by kernel_rfl) (by kernel_rfl)
theorem ty35 : TyOK Tryz.prog 35 ⟨1, false, 24, [.slice none 0 0], .slice 48, false⟩ :=
  tyOK_of ((Tryz.prog.info? 35).getD default) (((Tryz.prog.info? 35).bind (·.zero)).getD default) ((Tryz.prog.underlying 35).getD default) (by kernel_rfl) (by kernel_rfl) (by kernel_rfl) (by kernel_rfl) (by kernel_rfl) (by kernel_rfl) (by kernel_rfl) (show (Tryz.prog.underlying 35).getD default = (.slice 48 : TypeDesc) from by kernel_rfl) (by kernel_rfl) (by kernel_rfl) (by kernel_rfl)
theorem ty44 : TyOK Tryz.prog 44 ⟨1, false, 24, [.slice none 0 0], .slice 105, false⟩ :=
  tyOK_of ((Tryz.prog.info? 44).getD default) (((Tryz.prog.info? 44).bind (·.zero)).getD default) ((Tryz.prog.underlying 44).getD default) (by kernel_rfl) (by kernel_rfl) (by kernel_rfl) (by kernel_rfl) (by kernel_rfl) (by kernel_rfl) (by kernel_rfl) (show (Tryz.prog.underlying 44).getD default = (.slice 105 : TypeDesc) from by kernel_rfl) (by kernel_rfl) (by kernel_rfl) (by kernel_rfl)
theorem ty46 : TyOK Tryz.prog 46 ⟨2, true, 32, [.int .i64 0, .slice none 0 0], .struct [(0, 3), (1, 44)], false⟩ :=
  tyOK_of ((Tryz.prog.info? 46).getD default) (((Tryz.prog.info? 46).bind (·.zero)).getD default) ((Tryz.prog.underlying 46).getD default) (by kernel_rfl) (by kernel_rfl) (by kernel_rfl) (by kernel_rfl) (by kernel_rfl) (by kernel_rfl) (by kernel_rfl) (⟨match (Tryz.prog.underlying 46).getD default with | .struct F => F | _ => #[], by kernel_rfl, by kernel_rfl⟩) (by kernel_rfl) (by kernel_rfl) (by kernel_rfl)
theorem ty48 : TyOK Tryz.prog 48 ⟨1, false, 24, [.slice none 0 0], .slice 3, false⟩ :=
  tyOK_of ((Tryz.prog.info? 48).getD default) (((Tryz.prog.info? 48).bind (·.zero)).getD default) ((Tryz.prog.underlying 48).getD default) (by kernel_rfl) (by kernel_rfl) (by kernel_rfl) (by kernel_rfl) (by kernel_rfl) (by kernel_rfl) (by kernel_rfl) (show (Tryz.prog.underlying 48).getD default = (.slice 3 : TypeDesc) from by kernel_rfl) (by kernel_rfl) (by kernel_rfl) (by kernel_rfl)
theorem ty49 : TyOK Tryz.prog 49 ⟨1, false, 24, [.slice none 0 0], .slice 77, false⟩ :=
  tyOK_of ((Tryz.prog.info? 49).getD default) (((Tryz.prog.info? 49).bind (·.zero)).getD default) ((Tryz.prog.underlying 49).getD default) (by kernel_rfl) (by kernel_rfl) (by kernel_rfl) (by kernel_rfl) (by kernel_rfl) (by kernel_rfl) (by kernel_rfl) (show (Tryz.prog.underlying 49).getD default = (.slice 77 : TypeDesc) from by kernel_rfl) (by kernel_rfl) (by kernel_rfl) (by kernel_rfl)
theorem ty50 : TyOK Tryz.prog 50 ⟨1, false, 24, [.slice none 0 0], .slice 77, false⟩ :=
  tyOK_of ((Tryz.prog.info? 50).getD default) (((Tryz.prog.info? 50).bind (·.zero)).getD default) ((Tryz.prog.underlying 50).getD default) (by kernel_rfl) (by kernel_rfl) (by kernel_rfl) (by kernel_rfl) (by kernel_rfl) (by kernel_rfl) (by kernel_rfl) (show (Tryz.prog.underlying 50).getD default = (.slice 77 : TypeDesc) from by kernel_rfl) (by kernel_rfl) (by kernel_rfl) (by kernel_rfl)
theorem ty52 : TyOK Tryz.prog 52 ⟨2, true, 48, [.slice none 0 0, .slice none 0 0], .struct [(0, 48), (1, 50)], false⟩ :=
  tyOK_of ((Tryz.prog.info? 52).getD default) (((Tryz.prog.info? 52).bind (·.zero)).getD default) ((Tryz.prog.underlying 52).getD default) (by kernel_rfl) (by kernel_rfl) (by kernel_rfl) (by kernel_rfl) (by kernel_rfl) (by kernel_rfl) (by kernel_rfl) (⟨match (Tryz.prog.underlying 52).getD default with | .struct F => F | _ => #[], by kernel_rfl, by kernel_rfl⟩) (by kernel_rfl) (by kernel_rfl) (by kernel_rfl)
theorem ty56 : TyOK Tryz.prog 56 ⟨1, false, 24, [.slice none 0 0], .slice 98, false⟩ :=
  tyOK_of ((Tryz.prog.info? 56).getD default) (((Tryz.prog.info? 56).bind (·.zero)).getD default) ((Tryz.prog.underlying 56).getD default) (by kernel_rfl) (by kernel_rfl) (by kernel_rfl) (by kernel_rfl) (by kernel_rfl) (by kernel_rfl) (by kernel_rfl) (show (Tryz.prog.underlying 56).getD default = (.slice 98 : TypeDesc) from by kernel_rfl) (by kernel_rfl) (by kernel_rfl) (by kernel_rfl)
theorem ty77 : TyOK Tryz.prog 77 ⟨7, true, 72, [.int .i64 0, .slice none 0 0, .int .i64 0, .int .i64 0, .int .i64 0, .int .i64 0, .int .i64 0], .struct [(0, 3), (1, 48), (2, 3), (3, 3), (4, 3), (5, 3), (6, 3)], false⟩ :=
  tyOK_of ((Tryz.prog.info? 77).getD default) (((Tryz.prog.info? 77).bind (·.zero)).getD default) ((Tryz.prog.underlying 77).getD default) (by kernel_rfl) (by kernel_rfl) (by kernel_rfl) (by kernel_rfl) (by kernel_rfl) (by kernel_rfl) (by kernel_rfl) (⟨match (Tryz.prog.underlying 77).getD default with | .struct F => F | _ => #[], by kernel_rfl, by kernel_rfl⟩) (by kernel_rfl) (by kernel_rfl) (by kernel_rfl)
theorem ty88 : TyOK Tryz.prog 88 ⟨1, false, 24, [.slice none 0 0], .slice 123, false⟩ :=
  tyOK_of ((Tryz.prog.info? 88).getD default) (((Tryz.prog.info? 88).bind (·.zero)).getD default) ((Tryz.prog.underlying 88).getD default) (by kernel_rfl) (by kernel_rfl) (by kernel_rfl) (by kernel_rfl) (by kernel_rfl) (by kernel_rfl) (by kernel_rfl) (show (Tryz.prog.underlying 88).getD default = (.slice 123 : TypeDesc) from by kernel_rfl) (by kernel_rfl) (by kernel_rfl) (by kernel_rfl)
theorem ty90 : TyOK Tryz.prog 90 ⟨3, true, 40, [.int .i64 0, .slice none 0 0, .bool false], .struct [(0, 3), (1, 88), (2, 4)], false⟩ :=
  tyOK_of ((Tryz.prog.info? 90).getD default) (((Tryz.prog.info? 90).bind (·.zero)).getD default) ((Tryz.prog.underlying 90).getD default) (by kernel_rfl) (by kernel_rfl) (by kernel_rfl) (by kernel_rfl) (by kernel_rfl) (by kernel_rfl) (by kernel_rfl) (⟨match (Tryz.prog.underlying 90).getD default with | .struct F => F | _ => #[], by kernel_rfl, by kernel_rfl⟩) (by kernel_rfl) (by kernel_rfl) (by kernel_rfl)
theorem ty98 : TyOK Tryz.prog 98 ⟨2, true, 16, [.int .i64 0, .int .i64 0], .struct [(0, 3), (1, 3)], true⟩ :=
  tyOK_of ((Tryz.prog.info? 98).getD default) (((Tryz.prog.info? 98).bind (·.zero)).getD default) ((Tryz.prog.underlying 98).getD default) (by kernel_rfl) (by kernel_rfl) (by kernel_rfl) (by kernel_rfl) (by kernel_rfl) (by kernel_rfl) (by kernel_rfl) (⟨match (Tryz.prog.underlying 98).getD default with | .struct F => F | _ => #[], by kernel_rfl, by kernel_rfl⟩) (by kernel_rfl) (by kernel_rfl) (by kernel_rfl)
theorem ty105 : TyOK Tryz.prog 105 ⟨3, true, 40, [.slice none 0 0, .int .i64 0, .bool false], .struct [(0, 48), (1, 3), (2, 4)], false⟩ :=
  tyOK_of ((Tryz.prog.info? 105).getD default) (((Tryz.prog.info? 105).bind (·.zero)).getD default) ((Tryz.prog.underlying 105).getD default) (by kernel_rfl) (by kernel_rfl) (by kernel_rfl) (by kernel_rfl) (by kernel_rfl) (by kernel_rfl) (by kernel_rfl) (⟨match (Tryz.prog.underlying 105).getD default with | .struct F => F | _ => #[], by kernel_rfl, by kernel_rfl⟩) (by kernel_rfl) (by kernel_rfl) (by kernel_rfl)
theorem ty109 : TyOK Tryz.prog 109 ⟨3, true, 40, [.int .i64 0, .int .i64 0, .slice none 0 0], .struct [(0, 3), (1, 3), (2, 48)], false⟩ :=
  tyOK_of ((Tryz.prog.info? 109).getD default) (((Tryz.prog.info? 109).bind (·.zero)).getD default) ((Tryz.prog.underlying 109).getD default) (by kernel_rfl) (by kernel_rfl) (by kernel_rfl) (by kernel_rfl) (by kernel_rfl) (by kernel_rfl) (by kernel_rfl) (⟨match (Tryz.prog.underlying 109).getD default with | .struct F => F | _ => #[], by kernel_rfl, by kernel_rfl⟩) (by kernel_rfl) (by kernel_rfl) (by kernel_rfl)
theorem ty117 : TyOK Tryz.prog 117 ⟨3, true, 72, [.slice none 0 0, .slice none 0 0, .slice none 0 0], .struct [(0, 48), (1, 48), (2, 48)], false⟩ :=
  tyOK_of ((Tryz.prog.info? 117).getD default) (((Tryz.prog.info? 117).bind (·.zero)).getD default) ((Tryz.prog.underlying 117).getD default) (by kernel_rfl) (by kernel_rfl) (by kernel_rfl) (by kernel_rfl) (by kernel_rfl) (by kernel_rfl) (by kernel_rfl) (⟨match (Tryz.prog.underlying 117).getD default with | .struct F => F | _ => #[], by kernel_rfl, by kernel_rfl⟩) (by kernel_rfl) (by kernel_rfl) (by kernel_rfl)
theorem ty123 : TyOK Tryz.prog 123 ⟨2, true, 32, [.slice none 0 0, .int .i64 0], .struct [(0, 48), (1, 3)], false⟩ :=
  tyOK_of ((Tryz.prog.info? 123).getD default) (((Tryz.prog.info? 123).bind (·.zero)).getD default) ((Tryz.prog.underlying 123).getD default) (by kernel_rfl) (by kernel_rfl) (by kernel_rfl) (by kernel_rfl) (by kernel_rfl) (by kernel_rfl) (by kernel_rfl) (⟨match (Tryz.prog.underlying 123).getD default with | .struct F => F | _ => #[], by kernel_rfl, by kernel_rfl⟩) (by kernel_rfl) (by kernel_rfl) (by kernel_rfl)
theorem ty125 : TyOK Tryz.prog 125 ⟨4, true, 64, [.slice none 0 0, .int .i64 0, .slice none 0 0, .int .i64 0], .struct [(0, 123), (2, 123)], false⟩ :=
  tyOK_of ((Tryz.prog.info? 125).getD default) (((Tryz.prog.info? 125).bind (·.zero)).getD default) ((Tryz.prog.underlying 125).getD default) (by kernel_rfl) (by kernel_rfl) (by kernel_rfl) (by kernel_rfl) (by kernel_rfl) (by kernel_rfl) (by kernel_rfl) (⟨match (Tryz.prog.underlying 125).getD default with | .struct F => F | _ => #[], by kernel_rfl, by kernel_rfl⟩) (by kernel_rfl) (by kernel_rfl) (by kernel_rfl)
theorem ty131 : TyOK Tryz.prog 131 ⟨1, false, 8, [.nilFunc], .other, false⟩ :=
  tyOK_of ((Tryz.prog.info? 131).getD default) (((Tryz.prog.info? 131).bind (·.zero)).getD default) ((Tryz.prog.underlying 131).getD default) (by kernel_rfl) (by kernel_rfl) (by kernel_rfl) (by kernel_rfl) (by kernel_rfl) (by kernel_rfl) (by kernel_rfl) (trivial) (by kernel_rfl) (by kernel_rfl) (by kernel_rfl)
theorem ty132 : TyOK Tryz.prog 132 ⟨1, false, 8, [.nilFunc], .other, false⟩ :=
  tyOK_of ((Tryz.prog.info? 132).getD default) (((Tryz.prog.info? 132).bind (·.zero)).getD default) ((Tryz.prog.underlying 132).getD default) (by kernel_rfl) (by kernel_rfl) (by kernel_rfl) (by kernel_rfl) (by kernel_rfl) (by kernel_rfl) (by kernel_rfl) (trivial) (by kernel_rfl) (by kernel_rfl) (by kernel_rfl)
theorem ty134 : TyOK Tryz.prog 134 ⟨1, false, 8, [.nilFunc], .other, false⟩ :=
  tyOK_of ((Tryz.prog.info? 134).getD default) (((Tryz.prog.info? 134).bind (·.zero)).getD default) ((Tryz.prog.underlying 134).getD default) (by kernel_rfl) (by kernel_rfl) (by kernel_rfl) (by kernel_rfl) (by kernel_rfl) (by kernel_rfl) (by kernel_rfl) (trivial) (by kernel_rfl) (by kernel_rfl) (by kernel_rfl)
theorem ty140 : TyOK Tryz.prog 140 ⟨1, false, 24, [.slice none 0 0], .slice 195, false⟩ :=
  tyOK_of ((Tryz.prog.info? 140).getD default) (((Tryz.prog.info? 140).bind (·.zero)).getD default) ((Tryz.prog.underlying 140).getD default) (by kernel_rfl) (by kernel_rfl) (by kernel_rfl) (by kernel_rfl) (by kernel_rfl) (by kernel_rfl) (by kernel_rfl) (show (Tryz.prog.underlying 140).getD default = (.slice 195 : TypeDesc) from by kernel_rfl) (by kernel_rfl) (by kernel_rfl) (by kernel_rfl)
theorem ty142 : TyOK Tryz.prog 142 ⟨2, true, 48, [.slice none 0 0, .slice none 0 0], .struct [(0, 140), (1, 140)], false⟩ :=
  tyOK_of ((Tryz.prog.info? 142).getD default) (((Tryz.prog.info? 142).bind (·.zero)).getD default) ((Tryz.prog.underlying 142).getD default) (by kernel_rfl) (by kernel_rfl) (by kernel_rfl) (by kernel_rfl) (by kernel_rfl) (by kernel_rfl) (by kernel_rfl) (⟨match (Tryz.prog.underlying 142).getD default with | .struct F => F | _ => #[], by kernel_rfl, by kernel_rfl⟩) (by kernel_rfl) (by kernel_rfl) (by kernel_rfl)
theorem ty145 : TyOK Tryz.prog 145 ⟨1, false, 8, [.pointer none], .other, false⟩ :=
  tyOK_of ((Tryz.prog.info? 145).getD default) (((Tryz.prog.info? 145).bind (·.zero)).getD default) ((Tryz.prog.underlying 145).getD default) (by kernel_rfl) (by kernel_rfl) (by kernel_rfl) (by kernel_rfl) (by kernel_rfl) (by kernel_rfl) (by kernel_rfl) (trivial) (by kernel_rfl) (by kernel_rfl) (by kernel_rfl)
theorem ty147 : TyOK Tryz.prog 147 ⟨4, true, 64, [.int .i64 0, .slice none 0 0, .slice none 0 0, .bool false], .struct [(0, 46), (2, 50), (3, 4)], false⟩ :=
  tyOK_of ((Tryz.prog.info? 147).getD default) (((Tryz.prog.info? 147).bind (·.zero)).getD default) ((Tryz.prog.underlying 147).getD default) (by kernel_rfl) (by kernel_rfl) (by kernel_rfl) (by kernel_rfl) (by kernel_rfl) (by kernel_rfl) (by kernel_rfl) (⟨match (Tryz.prog.underlying 147).getD default with | .struct F => F | _ => #[], by kernel_rfl, by kernel_rfl⟩) (by kernel_rfl) (by kernel_rfl) (by kernel_rfl)
theorem ty159 : TyOK Tryz.prog 159 ⟨2, true, 16, [.bool false, .int .i64 0], .struct [(0, 4), (1, 30)], true⟩ :=
  tyOK_of ((Tryz.prog.info? 159).getD default) (((Tryz.prog.info? 159).bind (·.zero)).getD default) ((Tryz.prog.underlying 159).getD default) (by kernel_rfl) (by kernel_rfl) (by kernel_rfl) (by kernel_rfl) (by kernel_rfl) (by kernel_rfl) (by kernel_rfl) (⟨match (Tryz.prog.underlying 159).getD default with | .struct F => F | _ => #[], by kernel_rfl, by kernel_rfl⟩) (by kernel_rfl) (by kernel_rfl) (by kernel_rfl)
theorem ty163 : TyOK Tryz.prog 163 ⟨1, false, 8, [.nilFunc], .other, false⟩ :=
  tyOK_of ((Tryz.prog.info? 163).getD default) (((Tryz.prog.info? 163).bind (·.zero)).getD default) ((Tryz.prog.underlying 163).getD default) (by kernel_rfl) (by kernel_rfl) (by kernel_rfl) (by kernel_rfl) (by kernel_rfl) (by kernel_rfl) (by kernel_rfl) (trivial) (by kernel_rfl) (by kernel_rfl) (by kernel_rfl)
theorem ty165 : TyOK Tryz.prog 165 ⟨1, false, 8, [.nilFunc], .other, false⟩ :=
  tyOK_of ((Tryz.prog.info? 165).getD default) (((Tryz.prog.info? 165).bind (·.zero)).getD default) ((Tryz.prog.underlying 165).getD default) (by kernel_rfl) (by kernel_rfl) (by kernel_rfl) (by kernel_rfl) (by kernel_rfl) (by kernel_rfl) (by kernel_rfl) (trivial) (by kernel_rfl) (by kernel_rfl) (by kernel_rfl)
theorem ty167 : TyOK Tryz.prog 167 ⟨1, false, 8, [.nilFunc], .other, false⟩ :=
  tyOK_of ((Tryz.prog.info? 167).getD default) (((Tryz.prog.info? 167).bind (·.zero)).getD default) ((Tryz.prog.underlying 167).getD default) (by kernel_rfl) (by kernel_rfl) (by kernel_rfl) (by kernel_rfl) (by kernel_rfl) (by kernel_rfl) (by kernel_rfl) (trivial) (by kernel_rfl) (by kernel_rfl) (by kernel_rfl)
theorem ty175 : TyOK Tryz.prog 175 ⟨1, false, 8, [.nilFunc], .other, false⟩ :=
  tyOK_of ((Tryz.prog.info? 175).getD default) (((Tryz.prog.info? 175).bind (·.zero)).getD default) ((Tryz.prog.underlying 175).getD default) (by kernel_rfl) (by kernel_rfl) (by kernel_rfl) (by kernel_rfl) (by kernel_rfl) (by kernel_rfl) (by kernel_rfl) (trivial) (by kernel_rfl) (by kernel_rfl) (by kernel_rfl)
theorem ty176 : TyOK Tryz.prog 176 ⟨1, false, 8, [.pointer none], .other, false⟩ :=
  tyOK_of ((Tryz.prog.info? 176).getD default) (((Tryz.prog.info? 176).bind (·.zero)).getD default) ((Tryz.prog.underlying 176).getD default) (by kernel_rfl) (by kernel_rfl) (by kernel_rfl) (by kernel_rfl) (by kernel_rfl) (by kernel_rfl) (by kernel_rfl) (trivial) (by kernel_rfl) (by kernel_rfl) (by kernel_rfl)
theorem ty177 : TyOK Tryz.prog 177 ⟨1, false, 24, [.slice none 0 0], .slice 44, false⟩ :=
  tyOK_of ((Tryz.prog.info? 177).getD default) (((Tryz.prog.info? 177).bind (·.zero)).getD default) ((Tryz.prog.underlying 177).getD default) (by kernel_rfl) (by kernel_rfl) (by kernel_rfl) (by kernel_rfl) (by kernel_rfl) (by kernel_rfl) (by kernel_rfl) (show (Tryz.prog.underlying 177).getD default = (.slice 44 : TypeDesc) from by kernel_rfl) (by kernel_rfl) (by kernel_rfl) (by kernel_rfl)
theorem ty179 : TyOK Tryz.prog 179 ⟨4, true, 80, [.int .i64 0, .slice none 0 0, .slice none 0 0, .slice none 0 0], .struct [(0, 46), (2, 50), (3, 177)], false⟩ :=
  tyOK_of ((Tryz.prog.info? 179).getD default) (((Tryz.prog.info? 179).bind (·.zero)).getD default) ((Tryz.prog.underlying 179).getD default) (by kernel_rfl) (by kernel_rfl) (by kernel_rfl) (by kernel_rfl) (by kernel_rfl) (by kernel_rfl) (by kernel_rfl) (⟨match (Tryz.prog.underlying 179).getD default with | .struct F => F | _ => #[], by kernel_rfl, by kernel_rfl⟩) (by kernel_rfl) (by kernel_rfl) (by kernel_rfl)
theorem ty181 : TyOK Tryz.prog 181 ⟨1, false, 8, [.nilFunc], .other, false⟩ :=
  tyOK_of ((Tryz.prog.info? 181).getD default) (((Tryz.prog.info? 181).bind (·.zero)).getD default) ((Tryz.prog.underlying 181).getD default) (by kernel_rfl) (by kernel_rfl) (by kernel_rfl) (by kernel_rfl) (by kernel_rfl) (by kernel_rfl) (by kernel_rfl) (trivial) (by kernel_rfl) (by kernel_rfl) (by kernel_rfl)
theorem ty184 : TyOK Tryz.prog 184 ⟨1, false, 8, [.nilFunc], .other, false⟩ :=
  tyOK_of ((Tryz.prog.info? 184).getD default) (((Tryz.prog.info? 184).bind (·.zero)).getD default) ((Tryz.prog.underlying 184).getD default) (by kernel_rfl) (by kernel_rfl) (by kernel_rfl) (by kernel_rfl) (by kernel_rfl) (by kernel_rfl) (by kernel_rfl) (trivial) (by kernel_rfl) (by kernel_rfl) (by kernel_rfl)
theorem ty187 : TyOK Tryz.prog 187 ⟨1, false, 8, [.nilFunc], .other, false⟩ :=
  tyOK_of ((Tryz.prog.info? 187).getD default) (((Tryz.prog.info? 187).bind (·.zero)).getD default) ((Tryz.prog.underlying 187).getD default) (by kernel_rfl) (by kernel_rfl) (by kernel_rfl) (by kernel_rfl) (by kernel_rfl) (by kernel_rfl) (by kernel_rfl) (trivial) (by kernel_rfl) (by kernel_rfl) (by kernel_rfl)
theorem ty193 : TyOK Tryz.prog 193 ⟨1, false, 8, [.nilFunc], .other, false⟩ :=
  tyOK_of ((Tryz.prog.info? 193).getD default) (((Tryz.prog.info? 193).bind (·.zero)).getD default) ((Tryz.prog.underlying 193).getD default) (by kernel_rfl) (by kernel_rfl) (by kernel_rfl) (by kernel_rfl) (by kernel_rfl) (by kernel_rfl) (by kernel_rfl) (trivial) (by kernel_rfl) (by kernel_rfl) (by kernel_rfl)
theorem ty195 : TyOK Tryz.prog 195 ⟨3, true, 24, [.bool false, .int .i64 0, .int .i64 0], .struct [(0, 4), (1, 3), (2, 3)], true⟩ :=
  tyOK_of ((Tryz.prog.info? 195).getD default) (((Tryz.prog.info? 195).bind (·.zero)).getD default) ((Tryz.prog.underlying 195).getD default) (by kernel_rfl) (by kernel_rfl) (by kernel_rfl) (by kernel_rfl) (by kernel_rfl) (by kernel_rfl) (by kernel_rfl) (⟨match (Tryz.prog.underlying 195).getD default with | .struct F => F | _ => #[], by kernel_rfl, by kernel_rfl⟩) (by kernel_rfl) (by kernel_rfl) (by kernel_rfl)
theorem ty200 : TyOK Tryz.prog 200 ⟨1, false, 8, [.pointer none], .other, false⟩ :=
  tyOK_of ((Tryz.prog.info? 200).getD default) (((Tryz.prog.info? 200).bind (·.zero)).getD default) ((Tryz.prog.underlying 200).getD default) (by kernel_rfl) (by kernel_rfl) (by kernel_rfl) (by kernel_rfl) (by kernel_rfl) (by kernel_rfl) (by kernel_rfl) (trivial) (by kernel_rfl) (by kernel_rfl) (by kernel_rfl)
theorem ty202 : TyOK Tryz.prog 202 ⟨2, true, 32, [.int .i64 0, .slice none 0 0], .struct [(0, 46)], false⟩ :=
  tyOK_of ((Tryz.prog.info? 202).getD default) (((Tryz.prog.info? 202).bind (·.zero)).getD default) ((Tryz.prog.underlying 202).getD default) (by kernel_rfl) (by kernel_rfl) (by kernel_rfl) (by kernel_rfl) (by kernel_rfl) (by kernel_rfl) (by kernel_rfl) (⟨match (Tryz.prog.underlying 202).getD default with | .struct F => F | _ => #[], by kernel_rfl, by kernel_rfl⟩) (by kernel_rfl) (by kernel_rfl) (by kernel_rfl)
theorem ty214 : TyOK Tryz.prog 214 ⟨1, false, 8, [.int .u64 0], .int .u64, false⟩ :=
  tyOK_of ((Tryz.prog.info? 214).getD default) (((Tryz.prog.info? 214).bind (·.zero)).getD default) ((Tryz.prog.underlying 214).getD default) (by kernel_rfl) (by kernel_rfl) (by kernel_rfl) (by kernel_rfl) (by kernel_rfl) (by kernel_rfl) (by kernel_rfl) (show (Tryz.prog.underlying 214).getD default = (.int .u64 : TypeDesc) from by kernel_rfl) (by kernel_rfl) (by kernel_rfl) (by kernel_rfl)
theorem ty219 : TyOK Tryz.prog 219 ⟨1, false, 8, [.nilFunc], .other, false⟩ :=
  tyOK_of ((Tryz.prog.info? 219).getD default) (((Tryz.prog.info? 219).bind (·.zero)).getD default) ((Tryz.prog.underlying 219).getD default) (by kernel_rfl) (by kernel_rfl) (by kernel_rfl) (by kernel_rfl) (by kernel_rfl) (by kernel_rfl) (by kernel_rfl) (trivial) (by kernel_rfl) (by kernel_rfl) (by kernel_rfl)
theorem ty223 : TyOK Tryz.prog 223 ⟨1, false, 8, [.map none], .map 3 3, false⟩ :=
  tyOK_of ((Tryz.prog.info? 223).getD default) (((Tryz.prog.info? 223).bind (·.zero)).getD default) ((Tryz.prog.underlying 223).getD default) (by kernel_rfl) (by kernel_rfl) (by kernel_rfl) (by kernel_rfl) (by kernel_rfl) (by kernel_rfl) (by kernel_rfl) (show (Tryz.prog.underlying 223).getD default = (.map 3 3 : TypeDesc) from by kernel_rfl) (by kernel_rfl) (by kernel_rfl) (by kernel_rfl)
theorem ty226 : TyOK Tryz.prog 226 ⟨1, false, 24, [.slice none 0 0], .slice 159, false⟩ :=
  tyOK_of ((Tryz.prog.info? 226).getD default) (((Tryz.prog.info? 226).bind (·.zero)).getD default) ((Tryz.prog.underlying 226).getD default) (by kernel_rfl) (by kernel_rfl) (by kernel_rfl) (by kernel_rfl) (by kernel_rfl) (by kernel_rfl) (by kernel_rfl) (show (Tryz.prog.underlying 226).getD default = (.slice 159 : TypeDesc) from by kernel_rfl) (by kernel_rfl) (by kernel_rfl) (by kernel_rfl)
theorem ty227 : TyOK Tryz.prog 227 ⟨1, false, 24, [.slice none 0 0], .slice 30, false⟩ :=
  tyOK_of ((Tryz.prog.info? 227).getD default) (((Tryz.prog.info? 227).bind (·.zero)).getD default) ((Tryz.prog.underlying 227).getD default) (by kernel_rfl) (by kernel_rfl) (by kernel_rfl) (by kernel_rfl) (by kernel_rfl) (by kernel_rfl) (by kernel_rfl) (show (Tryz.prog.underlying 227).getD default = (.slice 30 : TypeDesc) from by kernel_rfl) (by kernel_rfl) (by kernel_rfl) (by kernel_rfl)
theorem ty230 : TyOK Tryz.prog 230 ⟨2, true, 16, [.int .i64 0, .int .i64 0], .array 2 3, false⟩ :=
  tyOK_of ((Tryz.prog.info? 230).getD default) (((Tryz.prog.info? 230).bind (·.zero)).getD default) ((Tryz.prog.underlying 230).getD default) (by kernel_rfl) (by kernel_rfl) (by kernel_rfl) (by kernel_rfl) (by kernel_rfl) (by kernel_rfl) (by kernel_rfl) (show (Tryz.prog.underlying 230).getD default = (.array 2 3 : TypeDesc) from by kernel_rfl) (by kernel_rfl) (by kernel_rfl) (by kernel_rfl)
theorem ty236 : TyOK Tryz.prog 236 ⟨1, false, 8, [.nilFunc], .other, false⟩ :=
  tyOK_of ((Tryz.prog.info? 236).getD default) (((Tryz.prog.info? 236).bind (·.zero)).getD default) ((Tryz.prog.underlying 236).getD default) (by kernel_rfl) (by kernel_rfl) (by kernel_rfl) (by kernel_rfl) (by kernel_rfl) (by kernel_rfl) (by kernel_rfl) (trivial) (by kernel_rfl) (by kernel_rfl) (by kernel_rfl)
def tyN : List Nat := [1, 2, 3, 4, 5, 6, 9, 20, 22, 23, 24, 26, 29, 30, 35, 44, 46, 48, 49, 50, 52, 56, 77, 88, 90, 98, 105, 109, 117, 123, 125, 131, 132, 134, 140, 142, 145, 147, 159, 163, 165, 167, 175, 176, 177, 179, 181, 184, 187, 193, 195, 200, 202, 214, 219, 223, 226, 227, 230, 236]
theorem tyN_all : upto 237 (fun t => match tyT t with | none => true | some _ => tyN.any fun u => u.beq t) = true := by kernel_rfl
theorem tyN_ok : ∀ t ∈ tyN, ∀ ti, tyT t = some ti → TyOK Tryz.prog t ti :=
  List.forall_mem_cons.2 ⟨fun ti h => (Option.some.inj (h : some _ = some ti)) ▸ ty1,
  List.forall_mem_cons.2 ⟨fun ti h => (Option.some.inj (h : some _ = some ti)) ▸ ty2,
  List.forall_mem_cons.2 ⟨fun ti h => (Option.some.inj (h : some _ = some ti)) ▸ ty3,
  List.forall_mem_cons.2 ⟨fun ti h => (Option.some.inj (h : some _ = some ti)) ▸ ty4,
  List.forall_mem_cons.2 ⟨fun ti h => (Option.some.inj (h : some _ = some ti)) ▸ ty5,
  List.forall_mem_cons.2 ⟨fun ti h => (Option.some.inj (h : some _ = some ti)) ▸ ty6,
  List.forall_mem_cons.2 ⟨fun ti h => (Option.some.inj (h : some _ = some ti)) ▸ ty9,
  List.forall_mem_cons.2 ⟨fun ti h => (Option.some.inj (h : some _ = some ti)) ▸ ty20,
  List.forall_mem_cons.2 ⟨fun ti h => (Option.some.inj (h : some _ = some ti)) ▸ ty22,
  List.forall_mem_cons.2 ⟨fun ti h => (Option.some.inj (h : some _ = some ti)) ▸ ty23,
  List.forall_mem_cons.2 ⟨fun ti h => (Option.some.inj (h : some _ = some ti)) ▸ ty24,
  List.forall_mem_cons.2 ⟨fun ti h => (Option.some.inj (h : some _ = some ti)) ▸ ty26,
  List.forall_mem_cons.2 ⟨fun ti h => (Option.some.inj (h : some _ = some ti)) ▸ ty29,
  List.forall_mem_cons.2 ⟨fun ti h => (Option.some.inj (h : some _ = some ti)) ▸ ty30,
  List.forall_mem_cons.2 ⟨fun ti h => (Option.some.inj (h : some _ = some ti)) ▸ ty35,
  List.forall_mem_cons.2 ⟨fun ti h => (Option.some.inj (h : some _ = some ti)) ▸ ty44,
  List.forall_mem_cons.2 ⟨fun ti h => (Option.some.inj (h : some _ = some ti)) ▸ ty46,
  List.forall_mem_cons.2 ⟨fun ti h => (Option.some.inj (h : some _ = some ti)) ▸ ty48,
  List.forall_mem_cons.2 ⟨fun ti h => (Option.some.inj (h : some _ = some ti)) ▸ ty49,
  List.forall_mem_cons.2 ⟨fun ti h => (Option.some.inj (h : some _ = some ti)) ▸ ty50,
  List.forall_mem_cons.2 ⟨fun ti h => (Option.some.inj (h : some _ = some ti)) ▸ ty52,
  List.forall_mem_cons.2 ⟨fun ti h => (Option.some.inj (h : some _ = some ti)) ▸ ty56,
  List.forall_mem_cons.2 ⟨fun ti h => (Option.some.inj (h : some _ = some ti)) ▸ ty77,
  List.forall_mem_cons.2 ⟨fun ti h => (Option.some.inj (h : some _ = some ti)) ▸ ty88,
  List.forall_mem_cons.2 ⟨fun ti h => (Option.some.inj (h : some _ = some ti)) ▸ ty90,
  List.forall_mem_cons.2 ⟨fun ti h => (Option.some.inj (h : some _ = some ti)) ▸ ty98,
  List.forall_mem_cons.2 ⟨fun ti h => (Option.some.inj (h : some _ = some ti)) ▸ ty105,
  List.forall_mem_cons.2 ⟨fun ti h => (Option.some.inj (h : some _ = some ti)) ▸ ty109,
  List.forall_mem_cons.2 ⟨fun ti h => (Option.some.inj (h : some _ = some ti)) ▸ ty117,
  List.forall_mem_cons.2 ⟨fun ti h => (Option.some.inj (h : some _ = some ti)) ▸ ty123,
  List.forall_mem_cons.2 ⟨fun ti h => (Option.some.inj (h : some _ = some ti)) ▸ ty125,
  List.forall_mem_cons.2 ⟨fun ti h => (Option.some.inj (h : some _ = some ti)) ▸ ty131,
  List.forall_mem_cons.2 ⟨fun ti h => (Option.some.inj (h : some _ = some ti)) ▸ ty132,
  List.forall_mem_cons.2 ⟨fun ti h => (Option.some.inj (h : some _ = some ti)) ▸ ty134,
  List.forall_mem_cons.2 ⟨fun ti h => (Option.some.inj (h : some _ = some ti)) ▸ ty140,
  List.forall_mem_cons.2 ⟨fun ti h => (Option.some.inj (h : some _ = some ti)) ▸ ty142,
  List.forall_mem_cons.2 ⟨fun ti h => (Option.some.inj (h : some _ = some ti)) ▸ ty145,
  List.forall_mem_cons.2 ⟨fun ti h => (Option.some.inj (h : some _ = some ti)) ▸ ty147,
  List.forall_mem_cons.2 ⟨fun ti h => (Option.some.inj (h : some _ = some ti)) ▸ ty159,
  List.forall_mem_cons.2 ⟨fun ti h => (Option.some.inj (h : some _ = some ti)) ▸ ty163,
  List.forall_mem_cons.2 ⟨fun ti h => (Option.some.inj (h : some _ = some ti)) ▸ ty165,
  List.forall_mem_cons.2 ⟨fun ti h => (Option.some.inj (h : some _ = some ti)) ▸ ty167,
  List.forall_mem_cons.2 ⟨fun ti h => (Option.some.inj (h : some _ = some ti)) ▸ ty175,
  List.forall_mem_cons.2 ⟨fun ti h => (Option.some.inj (h : some _ = some ti)) ▸ ty176,
  List.forall_mem_cons.2 ⟨fun ti h => (Option.some.inj (h : some _ = some ti)) ▸ ty177,
  List.forall_mem_cons.2 ⟨fun ti h => (Option.some.inj (h : some _ = some ti)) ▸ ty179,
  List.forall_mem_cons.2 ⟨fun ti h => (Option.some.inj (h : some _ = some ti)) ▸ ty181,
  List.forall_mem_cons.2 ⟨fun ti h => (Option.some.inj (h : some _ = some ti)) ▸ ty184,
  List.forall_mem_cons.2 ⟨fun ti h => (Option.some.inj (h : some _ = some ti)) ▸ ty187,
  List.forall_mem_cons.2 ⟨fun ti h => (Option.some.inj (h : some _ = some ti)) ▸ ty193,
  List.forall_mem_cons.2 ⟨fun ti h => (Option.some.inj (h : some _ = some ti)) ▸ ty195,
  List.forall_mem_cons.2 ⟨fun ti h => (Option.some.inj (h : some _ = some ti)) ▸ ty200,
  List.forall_mem_cons.2 ⟨fun ti h => (Option.some.inj (h : some _ = some ti)) ▸ ty202,
  List.forall_mem_cons.2 ⟨fun ti h => (Option.some.inj (h : some _ = some ti)) ▸ ty214,
  List.forall_mem_cons.2 ⟨fun ti h => (Option.some.inj (h : some _ = some ti)) ▸ ty219,
  List.forall_mem_cons.2 ⟨fun ti h => (Option.some.inj (h : some _ = some ti)) ▸ ty223,
  List.forall_mem_cons.2 ⟨fun ti h => (Option.some.inj (h : some _ = some ti)) ▸ ty226,
  List.forall_mem_cons.2 ⟨fun ti h => (Option.some.inj (h : some _ = some ti)) ▸ ty227,
  List.forall_mem_cons.2 ⟨fun ti h => (Option.some.inj (h : some _ = some ti)) ▸ ty230,
  List.forall_mem_cons.2 ⟨fun ti h => (Option.some.inj (h : some _ = some ti)) ▸ ty236,
  List.forall_mem_nil _⟩⟩⟩⟩⟩⟩⟩⟩⟩⟩⟩⟩⟩⟩⟩⟩⟩⟩⟩⟩⟩⟩⟩⟩⟩⟩⟩⟩⟩⟩⟩⟩⟩⟩⟩⟩⟩⟩⟩⟩⟩⟩⟩⟩⟩⟩⟩⟩⟩⟩⟩⟩⟩⟩⟩⟩⟩⟩⟩⟩
theorem tyAll : TyT Tryz.prog gp := fun t ti h => by
  have hlt : t < 237 := by
    rcases Nat.lt_or_ge t 237 with q | q
    · exact q
    · have hb : t.blt 237 = false := by rw [Bool.eq_false_iff]; intro r; rw [Nat.blt_eq] at r; omega
      have : tyT t = none := by unfold tyT; rw [hb]; rfl
      have h' : tyT t = some ti := h
      rw [this] at h'; cases h'
  have h1 := upto_spec tyN_all t hlt
  have h' : tyT t = some ti := h
  rw [h'] at h1
  obtain ⟨u, hu, hq⟩ := List.any_eq_true.1 h1
  exact tyN_ok t ((Nat.eq_of_beq_eq_true hq) ▸ hu) ti h
def fnN : List Nat := [2, 3, 4, 5, 6, 7, 8, 9, 10, 11, 12, 13, 14, 15, 16, 17, 18, 19, 20, 21, 22, 23, 24, 25, 26, 27, 28, 29, 30, 31, 32, 33, 34, 35, 36, 37, 38, 39, 40, 41, 42, 43, 44, 45, 46, 47, 48, 49, 50, 51, 52, 53, 54, 55, 56, 57, 58, 59, 60, 61, 62, 63, 64, 65, 66, 67, 68, 69, 70, 71, 72, 73, 74, 75, 76, 77, 78, 79, 80, 81, 82, 83, 84, 85, 86, 87, 88, 89, 90, 91, 92, 93, 94, 95, 96, 97, 98, 99, 100, 101, 102, 103, 104, 105, 106, 107, 108, 109, 110, 111, 112, 113, 114, 115, 116, 117, 118, 119, 120, 121, 122, 123, 124, 125, 126, 127, 128, 129, 130, 131, 132, 133, 134, 135, 136, 137, 138, 139, 140, 141, 142, 143, 144, 145, 146, 147, 148, 149, 150, 151, 153, 155, 156, 157, 158, 159, 160, 161, 162, 163, 164, 165, 166, 167, 168, 169, 170, 171, 172, 173, 174, 175, 176, 177, 178, 179, 180, 181, 182, 183, 184, 185, 186, 187, 188, 189, 190, 191, 192, 193, 194, 195, 196]
theorem fnN_all : upto 197 (fun f => match fnT f with | none => true | some _ => fnN.any fun u => u.beq f) = true := by kernel_rfl
set_option maxRecDepth 100000 in
theorem fnN_ok : ∀ f ∈ fnN, ∀ fn, fnT f = some fn → Tryz.prog.funcs[f]? = some fn :=
  List.forall_mem_cons.2 ⟨fun fn h => (Option.some.inj (h : some _ = some fn)) ▸ Tryz.func2,
  List.forall_mem_cons.2 ⟨fun fn h => (Option.some.inj (h : some _ = some fn)) ▸ Tryz.func3,
  List.forall_mem_cons.2 ⟨fun fn h => (Option.some.inj (h : some _ = some fn)) ▸ Tryz.func4,
  List.forall_mem_cons.2 ⟨fun fn h => (Option.some.inj (h : some _ = some fn)) ▸ Tryz.func5,
  List.forall_mem_cons.2 ⟨fun fn h => (Option.some.inj (h : some _ = some fn)) ▸ Tryz.func6,
  List.forall_mem_cons.2 ⟨fun fn h => (Option.some.inj (h : some _ = some fn)) ▸ Tryz.func7,
  List.forall_mem_cons.2 ⟨fun fn h => (Option.some.inj (h : some _ = some fn)) ▸ Tryz.func8,
  List.forall_mem_cons.2 ⟨fun fn h => (Option.some.inj (h : some _ = some fn)) ▸ Tryz.func9,
  List.forall_mem_cons.2 ⟨fun fn h => (Option.some.inj (h : some _ = some fn)) ▸ Tryz.func10,
  List.forall_mem_cons.2 ⟨fun fn h => (Option.some.inj (h : some _ = some fn)) ▸ Tryz.func11,
  List.forall_mem_cons.2 ⟨fun fn h => (Option.some.inj (h : some _ = some fn)) ▸ Tryz.func12,
  List.forall_mem_cons.2 ⟨fun fn h => (Option.some.inj (h : some _ = some fn)) ▸ Tryz.func13,
  List.forall_mem_cons.2 ⟨fun fn h => (Option.some.inj (h : some _ = some fn)) ▸ Tryz.func14,
  List.forall_mem_cons.2 ⟨fun fn h => (Option.some.inj (h : some _ = some fn)) ▸ Tryz.func15,
  List.forall_mem_cons.2 ⟨fun fn h => (Option.some.inj (h : some _ = some fn)) ▸ Tryz.func16,
  List.forall_mem_cons.2 ⟨fun fn h => (Option.some.inj (h : some _ = some fn)) ▸ Tryz.func17,
  List.forall_mem_cons.2 ⟨fun fn h => (Option.some.inj (h : some _ = some fn)) ▸ Tryz.func18,
  List.forall_mem_cons.2 ⟨fun fn h => (Option.some.inj (h : some _ = some fn)) ▸ Tryz.func19,
  List.forall_mem_cons.2 ⟨fun fn h => (Option.some.inj (h : some _ = some fn)) ▸ Tryz.func20,
  List.forall_mem_cons.2 ⟨fun fn h => (Option.some.inj (h : some _ = some fn)) ▸ Tryz.func21,
  List.forall_mem_cons.2 ⟨fun fn h => (Option.some.inj (h : some _ = some fn)) ▸ Tryz.func22,
  List.forall_mem_cons.2 ⟨fun fn h => (Option.some.inj (h : some _ = some fn)) ▸ Tryz.func23,
  List.forall_mem_cons.2 ⟨fun fn h => (Option.some.inj (h : some _ = some fn)) ▸ Tryz.func24,
  List.forall_mem_cons.2 ⟨fun fn h => (Option.some.inj (h : some _ = some fn)) ▸ Tryz.func25,
  List.forall_mem_cons.2 ⟨fun fn h => (Option.some.inj (h : some _ = some fn)) ▸ Tryz.func26,
  List.forall_mem_cons.2 ⟨fun fn h => (Option.some.inj (h : some _ = some fn)) ▸ Tryz.func27,
  List.forall_mem_cons.2 ⟨fun fn h => (Option.some.inj (h : some _ = some fn)) ▸ Tryz.func28,
  List.forall_mem_cons.2 ⟨fun fn h => (Option.some.inj (h : some _ = some fn)) ▸ Tryz.func29,
  List.forall_mem_cons.2 ⟨fun fn h => (Option.some.inj (h : some _ = some fn)) ▸ Tryz.func30,
  List.forall_mem_cons.2 ⟨fun fn h => (Option.some.inj (h : some _ = some fn)) ▸ Tryz.func31,
  List.forall_mem_cons.2 ⟨fun fn h => (Option.some.inj (h : some _ = some fn)) ▸ Tryz.func32,
  List.forall_mem_cons.2 ⟨fun fn h => (Option.some.inj (h : some _ = some fn)) ▸ Tryz.func33,
  List.forall_mem_cons.2 ⟨fun fn h => (Option.some.inj (h : some _ = some fn)) ▸ Tryz.func34,
  List.forall_mem_cons.2 ⟨fun fn h => (Option.some.inj (h : some _ = some fn)) ▸ Tryz.func35,
  List.forall_mem_cons.2 ⟨fun fn h => (Option.some.inj (h : some _ = some fn)) ▸ Tryz.func36,
  List.forall_mem_cons.2 ⟨fun fn h => (Option.some.inj (h : some _ = some fn)) ▸ Tryz.func37,
  List.forall_mem_cons.2 ⟨fun fn h => (Option.some.inj (h : some _ = some fn)) ▸ Tryz.func38,
  List.forall_mem_cons.2 ⟨fun fn h => (Option.some.inj (h : some _ = some fn)) ▸ Tryz.func39,
  List.forall_mem_cons.2 ⟨fun fn h => (Option.some.inj (h : some _ = some fn)) ▸ Tryz.func40,
  List.forall_mem_cons.2 ⟨fun fn h => (Option.some.inj (h : some _ = some fn)) ▸ Tryz.func41,
  List.forall_mem_cons.2 ⟨fun fn h => (Option.some.inj (h : some _ = some fn)) ▸ Tryz.func42,
  List.forall_mem_cons.2 ⟨fun fn h => (Option.some.inj (h : some _ = some fn)) ▸ Tryz.func43,
  List.forall_mem_cons.2 ⟨fun fn h => (Option.some.inj (h : some _ = some fn)) ▸ Tryz.func44,
  List.forall_mem_cons.2 ⟨fun fn h => (Option.some.inj (h : some _ = some fn)) ▸ Tryz.func45,
  List.forall_mem_cons.2 ⟨fun fn h => (Option.some.inj (h : some _ = some fn)) ▸ Tryz.func46,
  List.forall_mem_cons.2 ⟨fun fn h => (Option.some.inj (h : some _ = some fn)) ▸ Tryz.func47,
  List.forall_mem_cons.2 ⟨fun fn h => (Option.some.inj (h : some _ = some fn)) ▸ Tryz.func48,
  List.forall_mem_cons.2 ⟨fun fn h => (Option.some.inj (h : some _ = some fn)) ▸ Tryz.func49,
  List.forall_mem_cons.2 ⟨fun fn h => (Option.some.inj (h : some _ = some fn)) ▸ Tryz.func50,
  List.forall_mem_cons.2 ⟨fun fn h => (Option.some.inj (h : some _ = some fn)) ▸ Tryz.func51,
  List.forall_mem_cons.2 ⟨fun fn h => (Option.some.inj (h : some _ = some fn)) ▸ Tryz.func52,
  List.forall_mem_cons.2 ⟨fun fn h => (Option.some.inj (h : some _ = some fn)) ▸ Tryz.func53,
  List.forall_mem_cons.2 ⟨fun fn h => (Option.some.inj (h : some _ = some fn)) ▸ Tryz.func54,
  List.forall_mem_cons.2 ⟨fun fn h => (Option.some.inj (h : some _ = some fn)) ▸ Tryz.func55,
  List.forall_mem_cons.2 ⟨fun fn h => (Option.some.inj (h : some _ = some fn)) ▸ Tryz.func56,
  List.forall_mem_cons.2 ⟨fun fn h => (Option.some.inj (h : some _ = some fn)) ▸ Tryz.func57,
  List.forall_mem_cons.2 ⟨fun fn h => (Option.some.inj (h : some _ = some fn)) ▸ Tryz.func58,
  List.forall_mem_cons.2 ⟨fun fn h => (Option.some.inj (h : some _ = some fn)) ▸ Tryz.func59,
  List.forall_mem_cons.2 ⟨fun fn h => (Option.some.inj (h : some _ = some fn)) ▸ Tryz.func60,
  List.forall_mem_cons.2 ⟨fun fn h => (Option.some.inj (h : some _ = some fn)) ▸ Tryz.func61,
  List.forall_mem_cons.2 ⟨fun fn h => (Option.some.inj (h : some _ = some fn)) ▸ Tryz.func62,
  List.forall_mem_cons.2 ⟨fun fn h => (Option.some.inj (h : some _ = some fn)) ▸ Tryz.func63,
  List.forall_mem_cons.2 ⟨fun fn h => (Option.some.inj (h : some _ = some fn)) ▸ Tryz.func64,
  List.forall_mem_cons.2 ⟨fun fn h => (Option.some.inj (h : some _ = some fn)) ▸ Tryz.func65,
  List.forall_mem_cons.2 ⟨fun fn h => (Option.some.inj (h : some _ = some fn)) ▸ Tryz.func66,
  List.forall_mem_cons.2 ⟨fun fn h => (Option.some.inj (h : some _ = some fn)) ▸ Tryz.func67,
  List.forall_mem_cons.2 ⟨fun fn h => (Option.some.inj (h : some _ = some fn)) ▸ Tryz.func68,
  List.forall_mem_cons.2 ⟨fun fn h => (Option.some.inj (h : some _ = some fn)) ▸ Tryz.func69,
  List.forall_mem_cons.2 ⟨fun fn h => (Option.some.inj (h : some _ = some fn)) ▸ Tryz.func70,
  List.forall_mem_cons.2 ⟨fun fn h => (Option.some.inj (h : some _ = some fn)) ▸ Tryz.func71,
  List.forall_mem_cons.2 ⟨fun fn h => (Option.some.inj (h : some _ = some fn)) ▸ Tryz.func72,
  List.forall_mem_cons.2 ⟨fun fn h => (Option.some.inj (h : some _ = some fn)) ▸ Tryz.func73,
  List.forall_mem_cons.2 ⟨fun fn h => (Option.some.inj (h : some _ = some fn)) ▸ Tryz.func74,
  List.forall_mem_cons.2 ⟨fun fn h => (Option.some.inj (h : some _ = some fn)) ▸ Tryz.func75,
  List.forall_mem_cons.2 ⟨fun fn h => (Option.some.inj (h : some _ = some fn)) ▸ Tryz.func76,
  List.forall_mem_cons.2 ⟨fun fn h => (Option.some.inj (h : some _ = some fn)) ▸ Tryz.func77,
  List.forall_mem_cons.2 ⟨fun fn h => (Option.some.inj (h : some _ = some fn)) ▸ Tryz.func78,
  List.forall_mem_cons.2 ⟨fun fn h => (Option.some.inj (h : some _ = some fn)) ▸ Tryz.func79,
  List.forall_mem_cons.2 ⟨fun fn h => (Option.some.inj (h : some _ = some fn)) ▸ Tryz.func80,
  List.forall_mem_cons.2 ⟨fun fn h => (Option.some.inj (h : some _ = some fn)) ▸ Tryz.func81,
  List.forall_mem_cons.2 ⟨fun fn h => (Option.some.inj (h : some _ = some fn)) ▸ Tryz.func82,
  List.forall_mem_cons.2 ⟨fun fn h => (Option.some.inj (h : some _ = some fn)) ▸ Tryz.func83,
  List.forall_mem_cons.2 ⟨fun fn h => (Option.some.inj (h : some _ = some fn)) ▸ Tryz.func84,
  List.forall_mem_cons.2 ⟨fun fn h => (Option.some.inj (h : some _ = some fn)) ▸ Tryz.func85,
  List.forall_mem_cons.2 ⟨fun fn h => (Option.some.inj (h : some _ = some fn)) ▸ Tryz.func86,
  List.forall_mem_cons.2 ⟨fun fn h => (Option.some.inj (h : some _ = some fn)) ▸ Tryz.func87,
  List.forall_mem_cons.2 ⟨fun fn h => (Option.some.inj (h : some _ = some fn)) ▸ Tryz.func88,
  List.forall_mem_cons.2 ⟨fun fn h => (Option.some.inj (h : some _ = some fn)) ▸ Tryz.func89,
  List.forall_mem_cons.2 ⟨fun fn h => (Option.some.inj (h : some _ = some fn)) ▸ Tryz.func90,
  List.forall_mem_cons.2 ⟨fun fn h => (Option.some.inj (h : some _ = some fn)) ▸ Tryz.func91,
  List.forall_mem_cons.2 ⟨fun fn h => (Option.some.inj (h : some _ = some fn)) ▸ Tryz.func92,
  List.forall_mem_cons.2 ⟨fun fn h => (Option.some.inj (h : some _ = some fn)) ▸ Tryz.func93,
  List.forall_mem_cons.2 ⟨fun fn h => (Option.some.inj (h : some _ = some fn)) ▸ Tryz.func94,
  List.forall_mem_cons.2 ⟨fun fn h => (Option.some.inj (h : some _ = some fn)) ▸ Tryz.func95,
  List.forall_mem_cons.2 ⟨fun fn h => (Option.some.inj (h : some _ = some fn)) ▸ Tryz.func96,
  List.forall_mem_cons.2 ⟨fun fn h => (Option.some.inj (h : some _ = some fn)) ▸ Tryz.func97,
  List.forall_mem_cons.2 ⟨fun fn h => (Option.some.inj (h : some _ = some fn)) ▸ Tryz.func98,
  List.forall_mem_cons.2 ⟨fun fn h => (Option.some.inj (h : some _ = some fn)) ▸ Tryz.func99,
  List.forall_mem_cons.2 ⟨fun fn h => (Option.some.inj (h : some _ = some fn)) ▸ Tryz.func100,
  List.forall_mem_cons.2 ⟨fun fn h => (Option.some.inj (h : some _ = some fn)) ▸ Tryz.func101,
  List.forall_mem_cons.2 ⟨fun fn h => (Option.some.inj (h : some _ = some fn)) ▸ Tryz.func102,
  List.forall_mem_cons.2 ⟨fun fn h => (Option.some.inj (h : some _ = some fn)) ▸ Tryz.func103,
  List.forall_mem_cons.2 ⟨fun fn h => (Option.some.inj (h : some _ = some fn)) ▸ Tryz.func104,
  List.forall_mem_cons.2 ⟨fun fn h => (Option.some.inj (h : some _ = some fn)) ▸ Tryz.func105,
  List.forall_mem_cons.2 ⟨fun fn h => (Option.some.inj (h : some _ = some fn)) ▸ Tryz.func106,
  List.forall_mem_cons.2 ⟨fun fn h => (Option.some.inj (h : some _ = some fn)) ▸ Tryz.func107,
  List.forall_mem_cons.2 ⟨fun fn h => (Option.some.inj (h : some _ = some fn)) ▸ Tryz.func108,
  List.forall_mem_cons.2 ⟨fun fn h => (Option.some.inj (h : some _ = some fn)) ▸ Tryz.func109,
  List.forall_mem_cons.2 ⟨fun fn h => (Option.some.inj (h : some _ = some fn)) ▸ Tryz.func110,
  List.forall_mem_cons.2 ⟨fun fn h => (Option.some.inj (h : some _ = some fn)) ▸ Tryz.func111,
  List.forall_mem_cons.2 ⟨fun fn h => (Option.some.inj (h : some _ = some fn)) ▸ Tryz.func112,
  List.forall_mem_cons.2 ⟨fun fn h => (Option.some.inj (h : some _ = some fn)) ▸ Tryz.func113,
  List.forall_mem_cons.2 ⟨fun fn h => (Option.some.inj (h : some _ = some fn)) ▸ Tryz.func114,
  List.forall_mem_cons.2 ⟨fun fn h => (Option.some.inj (h : some _ = some fn)) ▸ Tryz.func115,
  List.forall_mem_cons.2 ⟨fun fn h => (Option.some.inj (h : some _ = some fn)) ▸ Tryz.func116,
  List.forall_mem_cons.2 ⟨fun fn h => (Option.some.inj (h : some _ = some fn)) ▸ Tryz.func117,
  List.forall_mem_cons.2 ⟨fun fn h => (Option.some.inj (h : some _ = some fn)) ▸ Tryz.func118,
  List.forall_mem_cons.2 ⟨fun fn h => (Option.some.inj (h : some _ = some fn)) ▸ Tryz.func119,
  List.forall_mem_cons.2 ⟨fun fn h => (Option.some.inj (h : some _ = some fn)) ▸ Tryz.func120,
  List.forall_mem_cons.2 ⟨fun fn h => (Option.some.inj (h : some _ = some fn)) ▸ Tryz.func121,
  List.forall_mem_cons.2 ⟨fun fn h => (Option.some.inj (h : some _ = some fn)) ▸ Tryz.func122,
  List.forall_mem_cons.2 ⟨fun fn h => (Option.some.inj (h : some _ = some fn)) ▸ Tryz.func123,
  List.forall_mem_cons.2 ⟨fun fn h => (Option.some.inj (h : some _ = some fn)) ▸ Tryz.func124,
  List.forall_mem_cons.2 ⟨fun fn h => (Option.some.inj (h : some _ = some fn)) ▸ Tryz.func125,
  List.forall_mem_cons.2 ⟨fun fn h => (Option.some.inj (h : some _ = some fn)) ▸ Tryz.func126,
  List.forall_mem_cons.2 ⟨fun fn h => (Option.some.inj (h : some _ = some fn)) ▸ Tryz.func127,
  List.forall_mem_cons.2 ⟨fun fn h => (Option.some.inj (h : some _ = some fn)) ▸ Tryz.func128,
  List.forall_mem_cons.2 ⟨fun fn h => (Option.some.inj (h : some _ = some fn)) ▸ Tryz.func129,
  List.forall_mem_cons.2 ⟨fun fn h => (Option.some.inj (h : some _ = some fn)) ▸ Tryz.func130,
  List.forall_mem_cons.2 ⟨fun fn h => (Option.some.inj (h : some _ = some fn)) ▸ Tryz.func131,
  List.forall_mem_cons.2 ⟨fun fn h => (Option.some.inj (h : some _ = some fn)) ▸ Tryz.func132,
  List.forall_mem_cons.2 ⟨fun fn h => (Option.some.inj (h : some _ = some fn)) ▸ Tryz.func133,
  List.forall_mem_cons.2 ⟨fun fn h => (Option.some.inj (h : some _ = some fn)) ▸ Tryz.func134,
  List.forall_mem_cons.2 ⟨fun fn h => (Option.some.inj (h : some _ = some fn)) ▸ Tryz.func135,
  List.forall_mem_cons.2 ⟨fun fn h => (Option.some.inj (h : some _ = some fn)) ▸ Tryz.func136,
  List.forall_mem_cons.2 ⟨fun fn h => (Option.some.inj (h : some _ = some fn)) ▸ Tryz.func137,
  List.forall_mem_cons.2 ⟨fun fn h => (Option.some.inj (h : some _ = some fn)) ▸ Tryz.func138,
  List.forall_mem_cons.2 ⟨fun fn h => (Option.some.inj (h : some _ = some fn)) ▸ Tryz.func139,
  List.forall_mem_cons.2 ⟨fun fn h => (Option.some.inj (h : some _ = some fn)) ▸ Tryz.func140,
  List.forall_mem_cons.2 ⟨fun fn h => (Option.some.inj (h : some _ = some fn)) ▸ Tryz.func141,
  List.forall_mem_cons.2 ⟨fun fn h => (Option.some.inj (h : some _ = some fn)) ▸ Tryz.func142,
  List.forall_mem_cons.2 ⟨fun fn h => (Option.some.inj (h : some _ = some fn)) ▸ Tryz.func143,
  List.forall_mem_cons.2 ⟨fun fn h => (Option.some.inj (h : some _ = some fn)) ▸ Tryz.func144,
  List.forall_mem_cons.2 ⟨fun fn h => (Option.some.inj (h : some _ = some fn)) ▸ Tryz.func145,
  List.forall_mem_cons.2 ⟨fun fn h => (Option.some.inj (h : some _ = some fn)) ▸ Tryz.func146,
  List.forall_mem_cons.2 ⟨fun fn h => (Option.some.inj (h : some _ = some fn)) ▸ Tryz.func147,
  List.forall_mem_cons.2 ⟨fun fn h => (Option.some.inj (h : some _ = some fn)) ▸ Tryz.func148,
  List.forall_mem_cons.2 ⟨fun fn h => (Option.some.inj (h : some _ = some fn)) ▸ Tryz.func149,
  List.forall_mem_cons.2 ⟨fun fn h => (Option.some.inj (h : some _ = some fn)) ▸ Tryz.func150,
  List.forall_mem_cons.2 ⟨fun fn h => (Option.some.inj (h : some _ = some fn)) ▸ Tryz.func151,
  List.forall_mem_cons.2 ⟨fun fn h => (Option.some.inj (h : some _ = some fn)) ▸ Tryz.func153,
  List.forall_mem_cons.2 ⟨fun fn h => (Option.some.inj (h : some _ = some fn)) ▸ Tryz.func155,
  List.forall_mem_cons.2 ⟨fun fn h => (Option.some.inj (h : some _ = some fn)) ▸ Tryz.func156,
  List.forall_mem_cons.2 ⟨fun fn h => (Option.some.inj (h : some _ = some fn)) ▸ Tryz.func157,
  List.forall_mem_cons.2 ⟨fun fn h => (Option.some.inj (h : some _ = some fn)) ▸ Tryz.func158,
  List.forall_mem_cons.2 ⟨fun fn h => (Option.some.inj (h : some _ = some fn)) ▸ Tryz.func159,
  List.forall_mem_cons.2 ⟨fun fn h => (Option.some.inj (h : some _ = some fn)) ▸ Tryz.func160,
  List.forall_mem_cons.2 ⟨fun fn h => (Option.some.inj (h : some _ = some fn)) ▸ Tryz.func161,
  List.forall_mem_cons.2 ⟨fun fn h => (Option.some.inj (h : some _ = some fn)) ▸ Tryz.func162,
  List.forall_mem_cons.2 ⟨fun fn h => (Option.some.inj (h : some _ = some fn)) ▸ Tryz.func163,
  List.forall_mem_cons.2 ⟨fun fn h => (Option.some.inj (h : some _ = some fn)) ▸ Tryz.func164,
  List.forall_mem_cons.2 ⟨fun fn h => (Option.some.inj (h : some _ = some fn)) ▸ Tryz.func165,
  List.forall_mem_cons.2 ⟨fun fn h => (Option.some.inj (h : some _ = some fn)) ▸ Tryz.func166,
  List.forall_mem_cons.2 ⟨fun fn h => (Option.some.inj (h : some _ = some fn)) ▸ Tryz.func167,
  List.forall_mem_cons.2 ⟨fun fn h => (Option.some.inj (h : some _ = some fn)) ▸ Tryz.func168,
  List.forall_mem_cons.2 ⟨fun fn h => (Option.some.inj (h : some _ = some fn)) ▸ Tryz.func169,
  List.forall_mem_cons.2 ⟨fun fn h => (Option.some.inj (h : some _ = some fn)) ▸ Tryz.func170,
  List.forall_mem_cons.2 ⟨fun fn h => (Option.some.inj (h : some _ = some fn)) ▸ Tryz.func171,
  List.forall_mem_cons.2 ⟨fun fn h => (Option.some.inj (h : some _ = some fn)) ▸ Tryz.func172,
  List.forall_mem_cons.2 ⟨fun fn h => (Option.some.inj (h : some _ = some fn)) ▸ Tryz.func173,
  List.forall_mem_cons.2 ⟨fun fn h => (Option.some.inj (h : some _ = some fn)) ▸ Tryz.func174,
  List.forall_mem_cons.2 ⟨fun fn h => (Option.some.inj (h : some _ = some fn)) ▸ Tryz.func175,
  List.forall_mem_cons.2 ⟨fun fn h => (Option.some.inj (h : some _ = some fn)) ▸ Tryz.func176,
  List.forall_mem_cons.2 ⟨fun fn h => (Option.some.inj (h : some _ = some fn)) ▸ Tryz.func177,
  List.forall_mem_cons.2 ⟨fun fn h => (Option.some.inj (h : some _ = some fn)) ▸ Tryz.func178,
  List.forall_mem_cons.2 ⟨fun fn h => (Option.some.inj (h : some _ = some fn)) ▸ Tryz.func179,
  List.forall_mem_cons.2 ⟨fun fn h => (Option.some.inj (h : some _ = some fn)) ▸ Tryz.func180,
  List.forall_mem_cons.2 ⟨fun fn h => (Option.some.inj (h : some _ = some fn)) ▸ Tryz.func181,
  List.forall_mem_cons.2 ⟨fun fn h => (Option.some.inj (h : some _ = some fn)) ▸ Tryz.func182,
  List.forall_mem_cons.2 ⟨fun fn h => (Option.some.inj (h : some _ = some fn)) ▸ Tryz.func183,
  List.forall_mem_cons.2 ⟨fun fn h => (Option.some.inj (h : some _ = some fn)) ▸ Tryz.func184,
  List.forall_mem_cons.2 ⟨fun fn h => (Option.some.inj (h : some _ = some fn)) ▸ Tryz.func185,
  List.forall_mem_cons.2 ⟨fun fn h => (Option.some.inj (h : some _ = some fn)) ▸ Tryz.func186,
  List.forall_mem_cons.2 ⟨fun fn h => (Option.some.inj (h : some _ = some fn)) ▸ Tryz.func187,
  List.forall_mem_cons.2 ⟨fun fn h => (Option.some.inj (h : some _ = some fn)) ▸ Tryz.func188,
  List.forall_mem_cons.2 ⟨fun fn h => (Option.some.inj (h : some _ = some fn)) ▸ Tryz.func189,
  List.forall_mem_cons.2 ⟨fun fn h => (Option.some.inj (h : some _ = some fn)) ▸ Tryz.func190,
  List.forall_mem_cons.2 ⟨fun fn h => (Option.some.inj (h : some _ = some fn)) ▸ Tryz.func191,
  List.forall_mem_cons.2 ⟨fun fn h => (Option.some.inj (h : some _ = some fn)) ▸ Tryz.func192,
  List.forall_mem_cons.2 ⟨fun fn h => (Option.some.inj (h : some _ = some fn)) ▸ Tryz.func193,
  List.forall_mem_cons.2 ⟨fun fn h => (Option.some.inj (h : some _ = some fn)) ▸ Tryz.func194,
  List.forall_mem_cons.2 ⟨fun fn h => (Option.some.inj (h : some _ = some fn)) ▸ Tryz.func195,
  List.forall_mem_cons.2 ⟨fun fn h => (Option.some.inj (h : some _ = some fn)) ▸ Tryz.func196,
  List.forall_mem_nil _⟩⟩⟩⟩⟩⟩⟩⟩⟩⟩⟩⟩⟩⟩⟩⟩⟩⟩⟩⟩⟩⟩⟩⟩⟩⟩⟩⟩⟩⟩⟩⟩⟩⟩⟩⟩⟩⟩⟩⟩⟩⟩⟩⟩⟩⟩⟩⟩⟩⟩⟩⟩⟩⟩⟩⟩⟩⟩⟩⟩⟩⟩⟩⟩⟩⟩⟩⟩⟩⟩⟩⟩⟩⟩⟩⟩⟩⟩⟩⟩⟩⟩⟩⟩⟩⟩⟩⟩⟩⟩⟩⟩⟩⟩⟩⟩⟩⟩⟩⟩⟩⟩⟩⟩⟩⟩⟩⟩⟩⟩⟩⟩⟩⟩⟩⟩⟩⟩⟩⟩⟩⟩⟩⟩⟩⟩⟩⟩⟩⟩⟩⟩⟩⟩⟩⟩⟩⟩⟩⟩⟩⟩⟩⟩⟩⟩⟩⟩⟩⟩⟩⟩⟩⟩⟩⟩⟩⟩⟩⟩⟩⟩⟩⟩⟩⟩⟩⟩⟩⟩⟩⟩⟩⟩⟩⟩⟩⟩⟩⟩⟩⟩⟩⟩⟩⟩⟩⟩⟩⟩⟩⟩⟩
theorem fnB_all : upto 197 (fun f => fnB gp fnT f) = true := by kernel_rfl
theorem fnAll : ∀ f fn, gp.fn f = some fn → Tryz.prog.funcs[f]? = some fn ∧ (fn.name == "runtime.NumGoroutine") = false ∧ ∀ c, fn.body = some c → codeOk gp f fn.ntmps c = true := fun f fn h => by
  have h' : fnT f = some fn := h
  have hlt : f < 197 := by
    rcases Nat.lt_or_ge f 197 with q | q
    · exact q
    · have hb : f.blt 197 = false := by rw [Bool.eq_false_iff]; intro r; rw [Nat.blt_eq] at r; omega
      have : fnT f = none := by unfold fnT; rw [hb]; rfl
      rw [this] at h'; cases h'
  have h1 := upto_spec fnN_all f hlt
  rw [h'] at h1
  obtain ⟨u, hu, hq⟩ := List.any_eq_true.1 h1
  exact ⟨fnN_ok f ((Nat.eq_of_beq_eq_true hq) ▸ hu) fn h', fnB.spec (upto_spec fnB_all f hlt) h'⟩
theorem mixed : Tryz.prog.follows .mixedOrders = true := by kernel_rfl
end Go.Proofs.YthnnjopilpgakaaGreat
namespace Go.Proofs.YthnnjopilpgakaaGreat
open Go.Gh Go.RowKit

def Grew (w : World) (sz : Nat) (e : Ending) (w' : World) : Prop :=
  ∃ (c : Array Value) (el : TypeId) (cap : Nat), e = .returned (.slice (some ⟨w.heap.size, 0, none⟩) 0 cap) ∧ w'.heap = w.heap.push (.cells c el) ∧ cap * sz ≤ c.size ∧ w'.os = w.os ∧ w'.tape = w.tape ∧ w'.output = w.output

theorem grow_walk (m : Nat) (hm : 0 < m) (hm2 : m ≤ 1000000) (w : World) : Calls Tryz.prog 196 #[.slice none 0 0, .int .i64 m] w (Grew w 3) := by
  have hb : Tryz.t105.bytes = 40 := by kernel_rfl
  have hs : Tryz.t105.size = 3 := by kernel_rfl
  have h1 : ¬ (281474976710656 < (m : Int) * 40) := by omega
  have h2 : ¬ (281474976710656 < Builtin.nextslicecap m 0 * 40) := by
    have : Builtin.nextslicecap m 0 = m := by unfold Builtin.nextslicecap; rw [if_pos (by omega)]
    rw [this]; omega
  have h3 : ¬ (m = 0) := by omega
  go_enter Tryz.func196, Tryz.ntmps196
  go_wp2
  go_ret
  refine ⟨_, _, _, rfl, rfl, ?_, rfl, rfl, rfl⟩
  simp only [Array.size_append, Builtin.zeroCells, Array.size_map, Array.size_range]
  show _ ≤ m * 3 + (_ - m) * 3
  omega

theorem grow_zero (w : World) : Calls Tryz.prog 196 #[.slice none 0 0, .int .i64 0] w fun e w' => e = .returned (.slice none 0 0) ∧ w' = w := by
  go_enter Tryz.func196, Tryz.ntmps196
  go_wp2
  go_ret
  exact ⟨rfl, rfl⟩

theorem grow_ok (lk : Nat) : CSf Tryz.prog lk 196 (growNil 3) := by
  intro args H k σ w cargs hg hw hlk hp
  refine ⟨⟨Tryz.f196, Tryz.func196, by kernel_rfl, by kernel_rfl⟩, ?_⟩
  unfold growNil at hg
  split at hg
  · rename_i s n
    obtain ⟨a, b, hab, ga, gb⟩ := pw_two hp
    have hab' : cargs = #[a, b] := by rw [← Array.toArray_toList (xs := cargs), hab]
    subst hab'
    simp only [Bool.cond_eq_ite] at hg
    split at hg
    · rename_i hnil
      split at hg
      · rename_i m hm
        split at hg
        · rename_i hc
          have hnl : s = .d (.lit nilS) := by
            unfold isNilC at hnil
            split at hnil
            · rfl
            · cases hnil
          subst hnl
          have h1 := ga.lit
          have h2 := gb.int hm
          subst h1 h2
          obtain ⟨m, rfl⟩ := Int.eq_ofNat_of_zero_le hc.1
          by_cases h0 : 0 < m
          · refine (grow_walk m h0 (by omega) w).mono fun e w' => ?_
            rintro ⟨c, el, cap, rfl, q1, q2, q3, q4, q5⟩
            obtain ⟨σ', r1, r2, r3⟩ := tail_row hw (es := []) (sz := 3) (fun e he => by cases he) (fun x hx => by cases hx) c el cap (Nat.zero_le _) q2 (fun k hk => by simp [flat] at hk) H.length lk hlk (H ++ [.tail 0 3]) (fun j hj => get_append_ne hj) (by simp)
              (get_append_same H _) (.inl (by simp)) w' q1 q3 q4 q5
            exact ⟨_, σ', _, _, rfl, hg, r2, r1, r3⟩
          · have : m = 0 := by omega
            subst this
            refine (grow_zero w).mono fun e w' => ?_
            rintro ⟨rfl, rfl⟩
            obtain ⟨r1, r2⟩ := push_tok hw hlk none 0 3
            exact ⟨_, _, _, _, rfl, hg, r2, r1, .tl [] H.length 0 3 _ (get_append_same H _) (Nat.le_refl _) (.nil _ _) (fun _ => (upd_same _ _ _).symm) (fun e he => by cases he)⟩
        · cases hg
      · cases hg
    · cases hg
  · cases hg

theorem grow_no (sz : Nat) (args : List GV) (h : List GB) : growNil sz args h (fun _ _ => false) = false := by
  unfold growNil
  split <;> try rfl
  simp only [Bool.cond_eq_ite]
  (repeat' split) <;> rfl

theorem ovrAll : ∀ f F, gp.ovr f = some F → (∀ lk, CSf Tryz.prog lk f F) ∧ ∀ args h, F args h (fun _ _ => false) = false := fun f F h => by
  have h' : ovrT f = some F := h
  unfold ovrT at h'
  simp only [Bool.cond_eq_ite, Nat.beq_eq] at h'
  split at h'
  · rename_i q; subst q; cases h'
    exact ⟨grow_ok, grow_no 3⟩
  · cases h'

theorem table : Table Tryz.prog gp := ⟨mixed, tyAll, fnAll, ovrAll⟩
#print axioms table
end Go.Proofs.YthnnjopilpgakaaGreat
