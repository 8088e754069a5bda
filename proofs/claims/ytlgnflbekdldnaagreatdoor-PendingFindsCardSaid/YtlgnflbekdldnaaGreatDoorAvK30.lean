/- Texts AvE8. -/
import Derived.Test.YtlgnflbekdldnaaGreatDoorAvK29
set_option linter.unusedVariables false
set_option linter.unusedSimpArgs false
set_option linter.unusedSectionVars false
noncomputable section
namespace Go.AV
open Go.RowKit
theorem of_triv {P : Program} {J Y : Type} {p : Prop} {rs : Y → List R} {snap : J → Snap} {c : Cert P J Y} (h : p = triv rs snap c) : p := by
  rw [h]; exact triv_true rs snap c
def flatB : List R → Bool
  | [] => true
  | .c (.bool _) :: r => flatB r
  | .c (.int _ _) :: r => flatB r
  | .c (.str _) :: r => flatB r
  | _ :: _ => false
theorem flatE : ∀ {rs : List R}, flatB rs = true → ∀ r ∈ rs, r.flat
  | [], _ => by simp
  | .c (.bool b) :: rs, h => by
    intro x hx
    rcases List.mem_cons.1 hx with rfl | hx
    · exact ⟨rfl, by simp⟩
    · exact flatE (rs := rs) h x hx
  | .c (.int k n) :: rs, h => by
    intro x hx
    rcases List.mem_cons.1 hx with rfl | hx
    · exact ⟨rfl, by simp⟩
    · exact flatE (rs := rs) h x hx
  | .c (.str z) :: rs, h => by
    intro x hx
    rcases List.mem_cons.1 hx with rfl | hx
    · exact ⟨rfl, by simp⟩
    · exact flatE (rs := rs) h x hx
  | .own _ _ _ :: rs, h => by cases h
  | .c (.sl _) :: rs, h => by cases h
  | .c (.ptr _) :: rs, h => by cases h
  | .c (.fn _ _) :: rs, h => by cases h
  | .c (.map _ _ _) :: rs, h => by cases h
  | .c .junk :: rs, h => by cases h
structure Clo (P : Program) (X Y : Type) (fs : List GForm) (ga : X → List GArg) (res : Y → List RV) where
  f : FuncId
  caps : List C
  R : X → Y → Prop
  ok : ∀ x y, R x y → SpecG P f (ga x ++ caps.map fun c => .val (.one (.c c))) (res y) []
def Clo.mir {P : Program} {X Y : Type} {fs : List GForm} {ga : X → List GArg} {res : Y → List RV} (c : Clo P X Y fs ga res) (flat : Bool) (h : flat = true → ∀ y, ∀ r ∈ (res y).flatMap RV.cells ++ ([] : List (List Go.AV.R)).flatten, r.flat) : Mir P c.f X Y :=
  { fs := fs, ga := ga, caps := fun _ => c.caps, res := res, outs := fun _ => [], R := c.R, ok := c.ok, flat := flat, hflat := h }
namespace E
def i64 : Enc Int := ⟨intC, List.map intC, 1, fun _ => rfl, fun _ => rfl⟩
def u8 : Enc Int := ⟨u8C, List.map u8C, 1, fun _ => rfl, fun _ => rfl⟩
def u16 : Enc Int := ⟨u16C, List.map u16C, 1, fun _ => rfl, fun _ => rfl⟩
def u64 : Enc Int := ⟨u64C, List.map u64C, 1, fun _ => rfl, fun _ => rfl⟩
def bool : Enc Bool := ⟨boolC, List.map boolC, 1, fun _ => rfl, fun _ => rfl⟩
def str : Enc ByteArray := ⟨strC, List.map strC, 1, fun _ => rfl, fun _ => rfl⟩
def sl {α : Type} (E : Enc α) : Enc (List α) := ⟨fun x => [.sl (E.L x)], List.map fun x => [.sl (E.L x)], 1, fun _ => rfl, fun _ => rfl⟩
def GVal : Enc GVal := ⟨GVal.cs, GVal.css, 5, GVal.css_map, fun _ => rfl⟩
def GPolicy : Enc GPolicy := ⟨GPolicy.cs, List.map GPolicy.cs, 10, fun _ => rfl, fun _ => rfl⟩
def GAct : Enc GAct := ⟨GAct.cs, List.map GAct.cs, 32, fun _ => rfl, fun _ => rfl⟩
def GTimer : Enc GTimer := ⟨GTimer.cs, List.map GTimer.cs, 3, fun _ => rfl, fun _ => rfl⟩
def GKid : Enc GKid := ⟨GKid.cs, List.map GKid.cs, 6, fun _ => rfl, fun _ => rfl⟩
def GSend : Enc GSend := ⟨GSend.cs, List.map GSend.cs, 4, fun _ => rfl, fun _ => rfl⟩
def GUpd : Enc GUpd := ⟨GUpd.cs, List.map GUpd.cs, 2, fun _ => rfl, fun _ => rfl⟩
def GPending : Enc GPending := ⟨GPending.cs, List.map GPending.cs, 24, fun _ => rfl, fun _ => rfl⟩
def GEvent : Enc GEvent := ⟨GEvent.cs, List.map GEvent.cs, 24, fun _ => rfl, fun _ => rfl⟩
def GCommand : Enc GCommand := ⟨GCommand.cs, List.map GCommand.cs, 20, fun _ => rfl, fun _ => rfl⟩
end E
end Go.AV
end
