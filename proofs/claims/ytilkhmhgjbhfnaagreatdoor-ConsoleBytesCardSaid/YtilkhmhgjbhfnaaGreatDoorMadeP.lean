/- The state that the laws of chapter 13 begin with: plain (printed by wip/gen_madep.py). -/
import Derived.Test.YtilkhmhgjbhfnaaGreatDoorFsEqual
set_option linter.unusedVariables false
set_option linter.unusedSimpArgs false
namespace Go.Proofs.YtilkhmhgjbhfnaaGreatDoor
def deepP (i : Nat) : ByteArray := match i with
 | 0 => ⟨#[]⟩
 | 1 => ⟨#[47, 97]⟩
 | 2 => ⟨#[47, 97, 47, 98]⟩
 | 3 => ⟨#[47, 97, 47, 98, 47, 99]⟩
 | _ => ⟨#[47, 97, 47, 98, 47, 99, 47, 100]⟩
def deepK (k i : Nat) (file : Bool) : Int := if file && decide (i + 1 = k) then 0 else 1
def deepS (k : Nat) (file : Bool) : Nat → St
 | 0 => newV 1
 | i + 1 => (doV (deepS k file i) ⟨deepK k i file, 0, 0, 0, 0, deepP (i + 1), ⟨#[]⟩, ⟨#[]⟩⟩).1
def deepT (k : Nat) (f : Bool) : St := (doV (deepS k f k) ⟨11, 0, 0, 0, 0, ⟨#[47, 97]⟩, ⟨#[47, 122]⟩, ⟨#[]⟩⟩).1
end Go.Proofs.YtilkhmhgjbhfnaaGreatDoor
