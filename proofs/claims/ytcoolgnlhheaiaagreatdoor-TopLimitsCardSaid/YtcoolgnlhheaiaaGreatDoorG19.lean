import Derived.JoinedOf
import Derived.KernelRfl
import Derived.Test.YtcoolgnlhheaiaaGreatDoorRows
namespace Go.Proofs.YtcoolgnlhheaiaaGreatDoor
set_option linter.all false
theorem vU:(Rows.topLimitsRow.inPlace==Tryz.prog.inPlace 7)=true:=by kernel_rfl
theorem oX:(Rows.topLimitsRow.unfollowed==Tryz.prog.unfollowed 7)=true:=by kernel_rfl
theorem rR:(Rows.topLimitsRow.recurses==Tryz.prog.recurses 7)=true:=by kernel_rfl
theorem aBL:(Rows.topLimitsRow.named==Tryz.prog.varsNamed 7)=true:=by kernel_rfl
theorem wY:joinedFacts Tryz.prog 7 Tryz.f7 Rows.topLimitsSpec Rows.topLimitsRow=true:=by
 unfold joinedFacts;rw[vU,oX,rR,aBL]
 kernel_rfl
end Go.Proofs.YtcoolgnlhheaiaaGreatDoor
