/- What operations log and write; regions in order. Part of the proof that FastKnown returns true on every schedule, its listed variables laid as the text lays them. -/
import Derived.Test.YtiinfilmfcmicaaGreatDoorD06
import Derived.Defers
import Derived.Orders
import Derived.Scope
namespace Go.Dee
open Go

section
variable {s : St}

theorem stp_Eq {op : BinOp} {k : Bool} {x y : AV} : Stp s (opEq s op k x y) := by
  unfold opEq
  cases ptrOf x <;> cases ptrOf y
  all_goals repeat' first
    | exact stp_PtrNe
    | exact stp_same
    | exact stp_new
    | exact fun h => .setNew s _ _ h
    | exact fun _ => .set s _ none (.inr rfl)
    | exact fun _ => .setL (by assumption)
    | exact (rfl : _ = _)
    | trivial
    | refine stp_chk fun _ => ?_
    | refine stp_iff (fun _ => ?_) (fun _ => ?_)
    | refine stp_oTI fun _ _ => ?_
    | refine stp_oCells fun _ _ => ?_
    | refine stp_oAV fun _ _ => ?_
    | refine stp_oSt fun _ hw => ?_
    | exact fun _ => .write (by assumption)
    | refine stp_oBlk fun _ _ => ?_
    | refine stp_oNat fun _ _ => ?_
    | refine stp_oBytes fun _ _ => ?_
    | refine stp_oKind fun _ _ => ?_
    | refine stp_oElem fun _ _ => ?_
    | refine stp_oPair fun _ _ => ?_
    | refine stp_oFound fun _ _ => ?_
    | refine stp_oDec fun _ _ => ?_
    | refine stp_oMeth fun _ _ => ?_
    | refine stp_oSrc fun _ _ => ?_
    | refine stp_oVal fun _ _ => ?_
    | refine stp_oEl (fun _ _ => ?_) (fun _ => ?_)
    | refine stp_vPtr fun _ _ _ => ?_
    | refine stp_vInt fun _ _ _ => ?_
    | refine stp_vNat fun _ _ _ => ?_
    | refine stp_vStr fun _ _ => ?_
    | refine stp_vAgg fun _ _ => ?_
    | refine stp_vTup fun _ _ => ?_
    | refine stp_vMap fun _ _ => ?_
    | refine stp_vBool fun _ _ => ?_
    | refine stp_vIface fun _ _ _ => ?_
    | refine stp_vFn fun _ _ _ _ => ?_
    | refine stp_vSlE (fun _ => ?_) (fun _ _ _ _ _ => ?_)
    | refine stp_vMapE (fun _ => ?_) (fun _ _ => ?_)
    | refine stp_vIfaceE (fun _ => ?_) (fun _ _ _ => ?_)
    | refine stp_vNonNil (fun _ _ _ => ?_) (fun _ _ _ => ?_) (fun _ _ _ _ => ?_)
    | refine stp_vConv (fun _ _ _ => ?_) (fun _ _ => ?_) (fun _ => ?_) (fun _ _ _ _ _ => ?_) (fun _ _ _ => ?_)
    | refine stp_vCut (fun _ _ => ?_) (fun _ => ?_) (fun _ _ _ _ _ => ?_) (fun _ _ _ => ?_)
    | refine stp_vIdx (fun _ _ _ _ _ => ?_) (fun _ _ _ => ?_)
    | refine stp_vIdxV (fun _ _ => ?_) (fun _ _ => ?_)
    | refine stp_vRange (fun _ _ => ?_) (fun _ => ?_) (fun _ _ => ?_)
    | refine stp_vLen (fun _ _ => ?_) (fun _ => ?_) (fun _ => ?_) (fun _ _ _ _ _ => ?_) (fun _ _ => ?_)
    | refine stp_vPtrE (fun _ => ?_) (fun _ _ _ => ?_)
    | refine stp_vU8 fun _ _ => ?_
    | refine stp_bnd (fun _ => ?_) (fun _ _ _ => ?_)
    | refine stp_withMap fun _ _ _ => ?_
    | refine stp_withRow fun _ _ _ _ => ?_
    | refine stp_withIter (fun _ _ _ => ?_) (fun _ _ _ _ _ => ?_)
    | refine stp_hit (fun _ => ?_) (fun _ _ _ => ?_)
    | refine stp_atMostOne (fun _ => ?_) (fun _ _ => ?_)
    | refine stp_args1 fun _ _ => ?_
    | refine stp_args2 fun _ _ _ => ?_
    | refine stp_ty1 fun _ _ _ => ?_

theorem stp_Bin {tt : Trie TI} {op : BinOp} {t : TypeId} {k : Bool} {x y : AV} : Stp s (opBin tt s op t k x y) := by
  unfold opBin
  repeat' first
    | exact stp_Eq
    | exact stp_same
    | exact stp_new
    | exact fun h => .setNew s _ _ h
    | exact fun _ => .set s _ none (.inr rfl)
    | exact fun _ => .setL (by assumption)
    | exact (rfl : _ = _)
    | trivial
    | refine stp_chk fun _ => ?_
    | refine stp_iff (fun _ => ?_) (fun _ => ?_)
    | refine stp_oTI fun _ _ => ?_
    | refine stp_oCells fun _ _ => ?_
    | refine stp_oAV fun _ _ => ?_
    | refine stp_oSt fun _ hw => ?_
    | exact fun _ => .write (by assumption)
    | refine stp_oBlk fun _ _ => ?_
    | refine stp_oNat fun _ _ => ?_
    | refine stp_oBytes fun _ _ => ?_
    | refine stp_oKind fun _ _ => ?_
    | refine stp_oElem fun _ _ => ?_
    | refine stp_oPair fun _ _ => ?_
    | refine stp_oFound fun _ _ => ?_
    | refine stp_oDec fun _ _ => ?_
    | refine stp_oMeth fun _ _ => ?_
    | refine stp_oSrc fun _ _ => ?_
    | refine stp_oVal fun _ _ => ?_
    | refine stp_oEl (fun _ _ => ?_) (fun _ => ?_)
    | refine stp_vPtr fun _ _ _ => ?_
    | refine stp_vInt fun _ _ _ => ?_
    | refine stp_vNat fun _ _ _ => ?_
    | refine stp_vStr fun _ _ => ?_
    | refine stp_vAgg fun _ _ => ?_
    | refine stp_vTup fun _ _ => ?_
    | refine stp_vMap fun _ _ => ?_
    | refine stp_vBool fun _ _ => ?_
    | refine stp_vIface fun _ _ _ => ?_
    | refine stp_vFn fun _ _ _ _ => ?_
    | refine stp_vSlE (fun _ => ?_) (fun _ _ _ _ _ => ?_)
    | refine stp_vMapE (fun _ => ?_) (fun _ _ => ?_)
    | refine stp_vIfaceE (fun _ => ?_) (fun _ _ _ => ?_)
    | refine stp_vNonNil (fun _ _ _ => ?_) (fun _ _ _ => ?_) (fun _ _ _ _ => ?_)
    | refine stp_vConv (fun _ _ _ => ?_) (fun _ _ => ?_) (fun _ => ?_) (fun _ _ _ _ _ => ?_) (fun _ _ _ => ?_)
    | refine stp_vCut (fun _ _ => ?_) (fun _ => ?_) (fun _ _ _ _ _ => ?_) (fun _ _ _ => ?_)
    | refine stp_vIdx (fun _ _ _ _ _ => ?_) (fun _ _ _ => ?_)
    | refine stp_vIdxV (fun _ _ => ?_) (fun _ _ => ?_)
    | refine stp_vRange (fun _ _ => ?_) (fun _ => ?_) (fun _ _ => ?_)
    | refine stp_vLen (fun _ _ => ?_) (fun _ => ?_) (fun _ => ?_) (fun _ _ _ _ _ => ?_) (fun _ _ => ?_)
    | refine stp_vPtrE (fun _ => ?_) (fun _ _ _ => ?_)
    | refine stp_vU8 fun _ _ => ?_
    | refine stp_bnd (fun _ => ?_) (fun _ _ _ => ?_)
    | refine stp_withMap fun _ _ _ => ?_
    | refine stp_withRow fun _ _ _ _ => ?_
    | refine stp_withIter (fun _ _ _ => ?_) (fun _ _ _ _ _ => ?_)
    | refine stp_hit (fun _ => ?_) (fun _ _ _ => ?_)
    | refine stp_atMostOne (fun _ => ?_) (fun _ _ => ?_)
    | refine stp_args1 fun _ _ => ?_
    | refine stp_args2 fun _ _ _ => ?_
    | refine stp_ty1 fun _ _ _ => ?_

theorem stp_Un {op : UnOp} {x : AV} : Stp s (opUn s op x) := by
  unfold opUn
  cases op
  all_goals repeat' first
    | exact stp_same
    | exact stp_new
    | exact fun h => .setNew s _ _ h
    | exact fun _ => .set s _ none (.inr rfl)
    | exact fun _ => .setL (by assumption)
    | exact (rfl : _ = _)
    | trivial
    | refine stp_chk fun _ => ?_
    | refine stp_iff (fun _ => ?_) (fun _ => ?_)
    | refine stp_oTI fun _ _ => ?_
    | refine stp_oCells fun _ _ => ?_
    | refine stp_oAV fun _ _ => ?_
    | refine stp_oSt fun _ hw => ?_
    | exact fun _ => .write (by assumption)
    | refine stp_oBlk fun _ _ => ?_
    | refine stp_oNat fun _ _ => ?_
    | refine stp_oBytes fun _ _ => ?_
    | refine stp_oKind fun _ _ => ?_
    | refine stp_oElem fun _ _ => ?_
    | refine stp_oPair fun _ _ => ?_
    | refine stp_oFound fun _ _ => ?_
    | refine stp_oDec fun _ _ => ?_
    | refine stp_oMeth fun _ _ => ?_
    | refine stp_oSrc fun _ _ => ?_
    | refine stp_oVal fun _ _ => ?_
    | refine stp_oEl (fun _ _ => ?_) (fun _ => ?_)
    | refine stp_vPtr fun _ _ _ => ?_
    | refine stp_vInt fun _ _ _ => ?_
    | refine stp_vNat fun _ _ _ => ?_
    | refine stp_vStr fun _ _ => ?_
    | refine stp_vAgg fun _ _ => ?_
    | refine stp_vTup fun _ _ => ?_
    | refine stp_vMap fun _ _ => ?_
    | refine stp_vBool fun _ _ => ?_
    | refine stp_vIface fun _ _ _ => ?_
    | refine stp_vFn fun _ _ _ _ => ?_
    | refine stp_vSlE (fun _ => ?_) (fun _ _ _ _ _ => ?_)
    | refine stp_vMapE (fun _ => ?_) (fun _ _ => ?_)
    | refine stp_vIfaceE (fun _ => ?_) (fun _ _ _ => ?_)
    | refine stp_vNonNil (fun _ _ _ => ?_) (fun _ _ _ => ?_) (fun _ _ _ _ => ?_)
    | refine stp_vConv (fun _ _ _ => ?_) (fun _ _ => ?_) (fun _ => ?_) (fun _ _ _ _ _ => ?_) (fun _ _ _ => ?_)
    | refine stp_vCut (fun _ _ => ?_) (fun _ => ?_) (fun _ _ _ _ _ => ?_) (fun _ _ _ => ?_)
    | refine stp_vIdx (fun _ _ _ _ _ => ?_) (fun _ _ _ => ?_)
    | refine stp_vIdxV (fun _ _ => ?_) (fun _ _ => ?_)
    | refine stp_vRange (fun _ _ => ?_) (fun _ => ?_) (fun _ _ => ?_)
    | refine stp_vLen (fun _ _ => ?_) (fun _ => ?_) (fun _ => ?_) (fun _ _ _ _ _ => ?_) (fun _ _ => ?_)
    | refine stp_vPtrE (fun _ => ?_) (fun _ _ _ => ?_)
    | refine stp_vU8 fun _ _ => ?_
    | refine stp_bnd (fun _ => ?_) (fun _ _ _ => ?_)
    | refine stp_withMap fun _ _ _ => ?_
    | refine stp_withRow fun _ _ _ _ => ?_
    | refine stp_withIter (fun _ _ _ => ?_) (fun _ _ _ _ _ => ?_)
    | refine stp_hit (fun _ => ?_) (fun _ _ _ => ?_)
    | refine stp_atMostOne (fun _ => ?_) (fun _ _ => ?_)
    | refine stp_args1 fun _ _ => ?_
    | refine stp_args2 fun _ _ _ => ?_
    | refine stp_ty1 fun _ _ _ => ?_

theorem stp_ConvInt {td : TI} {n : Int} : Stp s (convInt td s n) := by
  unfold convInt
  repeat' first
    | exact stp_same
    | exact stp_new
    | exact fun h => .setNew s _ _ h
    | exact fun _ => .set s _ none (.inr rfl)
    | exact fun _ => .setL (by assumption)
    | exact (rfl : _ = _)
    | trivial
    | refine stp_chk fun _ => ?_
    | refine stp_iff (fun _ => ?_) (fun _ => ?_)
    | refine stp_oTI fun _ _ => ?_
    | refine stp_oCells fun _ _ => ?_
    | refine stp_oAV fun _ _ => ?_
    | refine stp_oSt fun _ hw => ?_
    | exact fun _ => .write (by assumption)
    | refine stp_oBlk fun _ _ => ?_
    | refine stp_oNat fun _ _ => ?_
    | refine stp_oBytes fun _ _ => ?_
    | refine stp_oKind fun _ _ => ?_
    | refine stp_oElem fun _ _ => ?_
    | refine stp_oPair fun _ _ => ?_
    | refine stp_oFound fun _ _ => ?_
    | refine stp_oDec fun _ _ => ?_
    | refine stp_oMeth fun _ _ => ?_
    | refine stp_oSrc fun _ _ => ?_
    | refine stp_oVal fun _ _ => ?_
    | refine stp_oEl (fun _ _ => ?_) (fun _ => ?_)
    | refine stp_vPtr fun _ _ _ => ?_
    | refine stp_vInt fun _ _ _ => ?_
    | refine stp_vNat fun _ _ _ => ?_
    | refine stp_vStr fun _ _ => ?_
    | refine stp_vAgg fun _ _ => ?_
    | refine stp_vTup fun _ _ => ?_
    | refine stp_vMap fun _ _ => ?_
    | refine stp_vBool fun _ _ => ?_
    | refine stp_vIface fun _ _ _ => ?_
    | refine stp_vFn fun _ _ _ _ => ?_
    | refine stp_vSlE (fun _ => ?_) (fun _ _ _ _ _ => ?_)
    | refine stp_vMapE (fun _ => ?_) (fun _ _ => ?_)
    | refine stp_vIfaceE (fun _ => ?_) (fun _ _ _ => ?_)
    | refine stp_vNonNil (fun _ _ _ => ?_) (fun _ _ _ => ?_) (fun _ _ _ _ => ?_)
    | refine stp_vConv (fun _ _ _ => ?_) (fun _ _ => ?_) (fun _ => ?_) (fun _ _ _ _ _ => ?_) (fun _ _ _ => ?_)
    | refine stp_vCut (fun _ _ => ?_) (fun _ => ?_) (fun _ _ _ _ _ => ?_) (fun _ _ _ => ?_)
    | refine stp_vIdx (fun _ _ _ _ _ => ?_) (fun _ _ _ => ?_)
    | refine stp_vIdxV (fun _ _ => ?_) (fun _ _ => ?_)
    | refine stp_vRange (fun _ _ => ?_) (fun _ => ?_) (fun _ _ => ?_)
    | refine stp_vLen (fun _ _ => ?_) (fun _ => ?_) (fun _ => ?_) (fun _ _ _ _ _ => ?_) (fun _ _ => ?_)
    | refine stp_vPtrE (fun _ => ?_) (fun _ _ _ => ?_)
    | refine stp_vU8 fun _ _ => ?_
    | refine stp_bnd (fun _ => ?_) (fun _ _ _ => ?_)
    | refine stp_withMap fun _ _ _ => ?_
    | refine stp_withRow fun _ _ _ _ => ?_
    | refine stp_withIter (fun _ _ _ => ?_) (fun _ _ _ _ _ => ?_)
    | refine stp_hit (fun _ => ?_) (fun _ _ _ => ?_)
    | refine stp_atMostOne (fun _ => ?_) (fun _ _ => ?_)
    | refine stp_args1 fun _ _ => ?_
    | refine stp_args2 fun _ _ _ => ?_
    | refine stp_ty1 fun _ _ _ => ?_

theorem stp_ConvStr {tt : Trie TI} {td : TI} {d : TypeId} {l : List Nat} : Stp s (convStr tt td s d l) := by
  unfold convStr
  repeat' first
    | exact stp_ConvSlice
    | exact stp_same
    | exact stp_new
    | exact fun h => .setNew s _ _ h
    | exact fun _ => .set s _ none (.inr rfl)
    | exact fun _ => .setL (by assumption)
    | exact (rfl : _ = _)
    | trivial
    | refine stp_chk fun _ => ?_
    | refine stp_iff (fun _ => ?_) (fun _ => ?_)
    | refine stp_oTI fun _ _ => ?_
    | refine stp_oCells fun _ _ => ?_
    | refine stp_oAV fun _ _ => ?_
    | refine stp_oSt fun _ hw => ?_
    | exact fun _ => .write (by assumption)
    | refine stp_oBlk fun _ _ => ?_
    | refine stp_oNat fun _ _ => ?_
    | refine stp_oBytes fun _ _ => ?_
    | refine stp_oKind fun _ _ => ?_
    | refine stp_oElem fun _ _ => ?_
    | refine stp_oPair fun _ _ => ?_
    | refine stp_oFound fun _ _ => ?_
    | refine stp_oDec fun _ _ => ?_
    | refine stp_oMeth fun _ _ => ?_
    | refine stp_oSrc fun _ _ => ?_
    | refine stp_oVal fun _ _ => ?_
    | refine stp_oEl (fun _ _ => ?_) (fun _ => ?_)
    | refine stp_vPtr fun _ _ _ => ?_
    | refine stp_vInt fun _ _ _ => ?_
    | refine stp_vNat fun _ _ _ => ?_
    | refine stp_vStr fun _ _ => ?_
    | refine stp_vAgg fun _ _ => ?_
    | refine stp_vTup fun _ _ => ?_
    | refine stp_vMap fun _ _ => ?_
    | refine stp_vBool fun _ _ => ?_
    | refine stp_vIface fun _ _ _ => ?_
    | refine stp_vFn fun _ _ _ _ => ?_
    | refine stp_vSlE (fun _ => ?_) (fun _ _ _ _ _ => ?_)
    | refine stp_vMapE (fun _ => ?_) (fun _ _ => ?_)
    | refine stp_vIfaceE (fun _ => ?_) (fun _ _ _ => ?_)
    | refine stp_vNonNil (fun _ _ _ => ?_) (fun _ _ _ => ?_) (fun _ _ _ _ => ?_)
    | refine stp_vConv (fun _ _ _ => ?_) (fun _ _ => ?_) (fun _ => ?_) (fun _ _ _ _ _ => ?_) (fun _ _ _ => ?_)
    | refine stp_vCut (fun _ _ => ?_) (fun _ => ?_) (fun _ _ _ _ _ => ?_) (fun _ _ _ => ?_)
    | refine stp_vIdx (fun _ _ _ _ _ => ?_) (fun _ _ _ => ?_)
    | refine stp_vIdxV (fun _ _ => ?_) (fun _ _ => ?_)
    | refine stp_vRange (fun _ _ => ?_) (fun _ => ?_) (fun _ _ => ?_)
    | refine stp_vLen (fun _ _ => ?_) (fun _ => ?_) (fun _ => ?_) (fun _ _ _ _ _ => ?_) (fun _ _ => ?_)
    | refine stp_vPtrE (fun _ => ?_) (fun _ _ _ => ?_)
    | refine stp_vU8 fun _ _ => ?_
    | refine stp_bnd (fun _ => ?_) (fun _ _ _ => ?_)
    | refine stp_withMap fun _ _ _ => ?_
    | refine stp_withRow fun _ _ _ _ => ?_
    | refine stp_withIter (fun _ _ _ => ?_) (fun _ _ _ _ _ => ?_)
    | refine stp_hit (fun _ => ?_) (fun _ _ _ => ?_)
    | refine stp_atMostOne (fun _ => ?_) (fun _ _ => ?_)
    | refine stp_args1 fun _ _ => ?_
    | refine stp_args2 fun _ _ _ => ?_
    | refine stp_ty1 fun _ _ _ => ?_

theorem stp_ConvSl {tt : Trie TI} {td : TI} {t : TypeId} {b o n : Nat} : Stp s (convSl tt td s t b o n) := by
  unfold convSl
  repeat' first
    | exact stp_same
    | exact stp_new
    | exact fun h => .setNew s _ _ h
    | exact fun _ => .set s _ none (.inr rfl)
    | exact fun _ => .setL (by assumption)
    | exact (rfl : _ = _)
    | trivial
    | refine stp_chk fun _ => ?_
    | refine stp_iff (fun _ => ?_) (fun _ => ?_)
    | refine stp_oTI fun _ _ => ?_
    | refine stp_oCells fun _ _ => ?_
    | refine stp_oAV fun _ _ => ?_
    | refine stp_oSt fun _ hw => ?_
    | exact fun _ => .write (by assumption)
    | refine stp_oBlk fun _ _ => ?_
    | refine stp_oNat fun _ _ => ?_
    | refine stp_oBytes fun _ _ => ?_
    | refine stp_oKind fun _ _ => ?_
    | refine stp_oElem fun _ _ => ?_
    | refine stp_oPair fun _ _ => ?_
    | refine stp_oFound fun _ _ => ?_
    | refine stp_oDec fun _ _ => ?_
    | refine stp_oMeth fun _ _ => ?_
    | refine stp_oSrc fun _ _ => ?_
    | refine stp_oVal fun _ _ => ?_
    | refine stp_oEl (fun _ _ => ?_) (fun _ => ?_)
    | refine stp_vPtr fun _ _ _ => ?_
    | refine stp_vInt fun _ _ _ => ?_
    | refine stp_vNat fun _ _ _ => ?_
    | refine stp_vStr fun _ _ => ?_
    | refine stp_vAgg fun _ _ => ?_
    | refine stp_vTup fun _ _ => ?_
    | refine stp_vMap fun _ _ => ?_
    | refine stp_vBool fun _ _ => ?_
    | refine stp_vIface fun _ _ _ => ?_
    | refine stp_vFn fun _ _ _ _ => ?_
    | refine stp_vSlE (fun _ => ?_) (fun _ _ _ _ _ => ?_)
    | refine stp_vMapE (fun _ => ?_) (fun _ _ => ?_)
    | refine stp_vIfaceE (fun _ => ?_) (fun _ _ _ => ?_)
    | refine stp_vNonNil (fun _ _ _ => ?_) (fun _ _ _ => ?_) (fun _ _ _ _ => ?_)
    | refine stp_vConv (fun _ _ _ => ?_) (fun _ _ => ?_) (fun _ => ?_) (fun _ _ _ _ _ => ?_) (fun _ _ _ => ?_)
    | refine stp_vCut (fun _ _ => ?_) (fun _ => ?_) (fun _ _ _ _ _ => ?_) (fun _ _ _ => ?_)
    | refine stp_vIdx (fun _ _ _ _ _ => ?_) (fun _ _ _ => ?_)
    | refine stp_vIdxV (fun _ _ => ?_) (fun _ _ => ?_)
    | refine stp_vRange (fun _ _ => ?_) (fun _ => ?_) (fun _ _ => ?_)
    | refine stp_vLen (fun _ _ => ?_) (fun _ => ?_) (fun _ => ?_) (fun _ _ _ _ _ => ?_) (fun _ _ => ?_)
    | refine stp_vPtrE (fun _ => ?_) (fun _ _ _ => ?_)
    | refine stp_vU8 fun _ _ => ?_
    | refine stp_bnd (fun _ => ?_) (fun _ _ _ => ?_)
    | refine stp_withMap fun _ _ _ => ?_
    | refine stp_withRow fun _ _ _ _ => ?_
    | refine stp_withIter (fun _ _ _ => ?_) (fun _ _ _ _ _ => ?_)
    | refine stp_hit (fun _ => ?_) (fun _ _ _ => ?_)
    | refine stp_atMostOne (fun _ => ?_) (fun _ _ => ?_)
    | refine stp_args1 fun _ _ => ?_
    | refine stp_args2 fun _ _ _ => ?_
    | refine stp_ty1 fun _ _ _ => ?_

theorem stp_Convert {tt : Trie TI} {a d : TypeId} {v : AV} : Stp s (opConvert tt s a d v) := by
  unfold opConvert
  repeat' first
    | exact stp_ConvInt
    | exact stp_ConvStr
    | exact stp_ConvSl
    | exact stp_ConvPtr
    | exact stp_same
    | exact stp_new
    | exact fun h => .setNew s _ _ h
    | exact fun _ => .set s _ none (.inr rfl)
    | exact fun _ => .setL (by assumption)
    | exact (rfl : _ = _)
    | trivial
    | refine stp_chk fun _ => ?_
    | refine stp_iff (fun _ => ?_) (fun _ => ?_)
    | refine stp_oTI fun _ _ => ?_
    | refine stp_oCells fun _ _ => ?_
    | refine stp_oAV fun _ _ => ?_
    | refine stp_oSt fun _ hw => ?_
    | exact fun _ => .write (by assumption)
    | refine stp_oBlk fun _ _ => ?_
    | refine stp_oNat fun _ _ => ?_
    | refine stp_oBytes fun _ _ => ?_
    | refine stp_oKind fun _ _ => ?_
    | refine stp_oElem fun _ _ => ?_
    | refine stp_oPair fun _ _ => ?_
    | refine stp_oFound fun _ _ => ?_
    | refine stp_oDec fun _ _ => ?_
    | refine stp_oMeth fun _ _ => ?_
    | refine stp_oSrc fun _ _ => ?_
    | refine stp_oVal fun _ _ => ?_
    | refine stp_oEl (fun _ _ => ?_) (fun _ => ?_)
    | refine stp_vPtr fun _ _ _ => ?_
    | refine stp_vInt fun _ _ _ => ?_
    | refine stp_vNat fun _ _ _ => ?_
    | refine stp_vStr fun _ _ => ?_
    | refine stp_vAgg fun _ _ => ?_
    | refine stp_vTup fun _ _ => ?_
    | refine stp_vMap fun _ _ => ?_
    | refine stp_vBool fun _ _ => ?_
    | refine stp_vIface fun _ _ _ => ?_
    | refine stp_vFn fun _ _ _ _ => ?_
    | refine stp_vSlE (fun _ => ?_) (fun _ _ _ _ _ => ?_)
    | refine stp_vMapE (fun _ => ?_) (fun _ _ => ?_)
    | refine stp_vIfaceE (fun _ => ?_) (fun _ _ _ => ?_)
    | refine stp_vNonNil (fun _ _ _ => ?_) (fun _ _ _ => ?_) (fun _ _ _ _ => ?_)
    | refine stp_vConv (fun _ _ _ => ?_) (fun _ _ => ?_) (fun _ => ?_) (fun _ _ _ _ _ => ?_) (fun _ _ _ => ?_)
    | refine stp_vCut (fun _ _ => ?_) (fun _ => ?_) (fun _ _ _ _ _ => ?_) (fun _ _ _ => ?_)
    | refine stp_vIdx (fun _ _ _ _ _ => ?_) (fun _ _ _ => ?_)
    | refine stp_vIdxV (fun _ _ => ?_) (fun _ _ => ?_)
    | refine stp_vRange (fun _ _ => ?_) (fun _ => ?_) (fun _ _ => ?_)
    | refine stp_vLen (fun _ _ => ?_) (fun _ => ?_) (fun _ => ?_) (fun _ _ _ _ _ => ?_) (fun _ _ => ?_)
    | refine stp_vPtrE (fun _ => ?_) (fun _ _ _ => ?_)
    | refine stp_vU8 fun _ _ => ?_
    | refine stp_bnd (fun _ => ?_) (fun _ _ _ => ?_)
    | refine stp_withMap fun _ _ _ => ?_
    | refine stp_withRow fun _ _ _ _ => ?_
    | refine stp_withIter (fun _ _ _ => ?_) (fun _ _ _ _ _ => ?_)
    | refine stp_hit (fun _ => ?_) (fun _ _ _ => ?_)
    | refine stp_atMostOne (fun _ => ?_) (fun _ _ => ?_)
    | refine stp_args1 fun _ _ => ?_
    | refine stp_args2 fun _ _ _ => ?_
    | refine stp_ty1 fun _ _ _ => ?_

theorem stp_SliceSl {e : TypeId} {size b o len : Nat} {cap : Option Nat} {lo hi mx : Option AV} : Stp s (sliceSl s e size b o len cap lo hi mx) := by
  unfold sliceSl
  cases cap
  all_goals repeat' first
    | exact stp_SliceOpen
    | exact stp_SliceOpen3
    | exact stp_SliceKnown
    | exact stp_same
    | exact stp_new
    | exact fun h => .setNew s _ _ h
    | exact fun _ => .set s _ none (.inr rfl)
    | exact fun _ => .setL (by assumption)
    | exact (rfl : _ = _)
    | trivial
    | refine stp_chk fun _ => ?_
    | refine stp_iff (fun _ => ?_) (fun _ => ?_)
    | refine stp_oTI fun _ _ => ?_
    | refine stp_oCells fun _ _ => ?_
    | refine stp_oAV fun _ _ => ?_
    | refine stp_oSt fun _ hw => ?_
    | exact fun _ => .write (by assumption)
    | refine stp_oBlk fun _ _ => ?_
    | refine stp_oNat fun _ _ => ?_
    | refine stp_oBytes fun _ _ => ?_
    | refine stp_oKind fun _ _ => ?_
    | refine stp_oElem fun _ _ => ?_
    | refine stp_oPair fun _ _ => ?_
    | refine stp_oFound fun _ _ => ?_
    | refine stp_oDec fun _ _ => ?_
    | refine stp_oMeth fun _ _ => ?_
    | refine stp_oSrc fun _ _ => ?_
    | refine stp_oVal fun _ _ => ?_
    | refine stp_oEl (fun _ _ => ?_) (fun _ => ?_)
    | refine stp_vPtr fun _ _ _ => ?_
    | refine stp_vInt fun _ _ _ => ?_
    | refine stp_vNat fun _ _ _ => ?_
    | refine stp_vStr fun _ _ => ?_
    | refine stp_vAgg fun _ _ => ?_
    | refine stp_vTup fun _ _ => ?_
    | refine stp_vMap fun _ _ => ?_
    | refine stp_vBool fun _ _ => ?_
    | refine stp_vIface fun _ _ _ => ?_
    | refine stp_vFn fun _ _ _ _ => ?_
    | refine stp_vSlE (fun _ => ?_) (fun _ _ _ _ _ => ?_)
    | refine stp_vMapE (fun _ => ?_) (fun _ _ => ?_)
    | refine stp_vIfaceE (fun _ => ?_) (fun _ _ _ => ?_)
    | refine stp_vNonNil (fun _ _ _ => ?_) (fun _ _ _ => ?_) (fun _ _ _ _ => ?_)
    | refine stp_vConv (fun _ _ _ => ?_) (fun _ _ => ?_) (fun _ => ?_) (fun _ _ _ _ _ => ?_) (fun _ _ _ => ?_)
    | refine stp_vCut (fun _ _ => ?_) (fun _ => ?_) (fun _ _ _ _ _ => ?_) (fun _ _ _ => ?_)
    | refine stp_vIdx (fun _ _ _ _ _ => ?_) (fun _ _ _ => ?_)
    | refine stp_vIdxV (fun _ _ => ?_) (fun _ _ => ?_)
    | refine stp_vRange (fun _ _ => ?_) (fun _ => ?_) (fun _ _ => ?_)
    | refine stp_vLen (fun _ _ => ?_) (fun _ => ?_) (fun _ => ?_) (fun _ _ _ _ _ => ?_) (fun _ _ => ?_)
    | refine stp_vPtrE (fun _ => ?_) (fun _ _ _ => ?_)
    | refine stp_vU8 fun _ _ => ?_
    | refine stp_bnd (fun _ => ?_) (fun _ _ _ => ?_)
    | refine stp_withMap fun _ _ _ => ?_
    | refine stp_withRow fun _ _ _ _ => ?_
    | refine stp_withIter (fun _ _ _ => ?_) (fun _ _ _ _ _ => ?_)
    | refine stp_hit (fun _ => ?_) (fun _ _ _ => ?_)
    | refine stp_atMostOne (fun _ => ?_) (fun _ _ => ?_)
    | refine stp_args1 fun _ _ => ?_
    | refine stp_args2 fun _ _ _ => ?_
    | refine stp_ty1 fun _ _ _ => ?_

theorem stp_Slice {tt : Trie TI} {t : TypeId} {x : AV} {lo hi mx : Option AV} : Stp s (opSlice tt s t x lo hi mx) := by
  unfold opSlice
  unfold zeroB
  all_goals repeat' first
    | exact stp_SliceStr
    | exact stp_SliceSl
    | exact stp_SliceKnown
    | exact stp_same
    | exact stp_new
    | exact fun h => .setNew s _ _ h
    | exact fun _ => .set s _ none (.inr rfl)
    | exact fun _ => .setL (by assumption)
    | exact (rfl : _ = _)
    | trivial
    | refine stp_chk fun _ => ?_
    | refine stp_iff (fun _ => ?_) (fun _ => ?_)
    | refine stp_oTI fun _ _ => ?_
    | refine stp_oCells fun _ _ => ?_
    | refine stp_oAV fun _ _ => ?_
    | refine stp_oSt fun _ hw => ?_
    | exact fun _ => .write (by assumption)
    | refine stp_oBlk fun _ _ => ?_
    | refine stp_oNat fun _ _ => ?_
    | refine stp_oBytes fun _ _ => ?_
    | refine stp_oKind fun _ _ => ?_
    | refine stp_oElem fun _ _ => ?_
    | refine stp_oPair fun _ _ => ?_
    | refine stp_oFound fun _ _ => ?_
    | refine stp_oDec fun _ _ => ?_
    | refine stp_oMeth fun _ _ => ?_
    | refine stp_oSrc fun _ _ => ?_
    | refine stp_oVal fun _ _ => ?_
    | refine stp_oEl (fun _ _ => ?_) (fun _ => ?_)
    | refine stp_vPtr fun _ _ _ => ?_
    | refine stp_vInt fun _ _ _ => ?_
    | refine stp_vNat fun _ _ _ => ?_
    | refine stp_vStr fun _ _ => ?_
    | refine stp_vAgg fun _ _ => ?_
    | refine stp_vTup fun _ _ => ?_
    | refine stp_vMap fun _ _ => ?_
    | refine stp_vBool fun _ _ => ?_
    | refine stp_vIface fun _ _ _ => ?_
    | refine stp_vFn fun _ _ _ _ => ?_
    | refine stp_vSlE (fun _ => ?_) (fun _ _ _ _ _ => ?_)
    | refine stp_vMapE (fun _ => ?_) (fun _ _ => ?_)
    | refine stp_vIfaceE (fun _ => ?_) (fun _ _ _ => ?_)
    | refine stp_vNonNil (fun _ _ _ => ?_) (fun _ _ _ => ?_) (fun _ _ _ _ => ?_)
    | refine stp_vConv (fun _ _ _ => ?_) (fun _ _ => ?_) (fun _ => ?_) (fun _ _ _ _ _ => ?_) (fun _ _ _ => ?_)
    | refine stp_vCut (fun _ _ => ?_) (fun _ => ?_) (fun _ _ _ _ _ => ?_) (fun _ _ _ => ?_)
    | refine stp_vIdx (fun _ _ _ _ _ => ?_) (fun _ _ _ => ?_)
    | refine stp_vIdxV (fun _ _ => ?_) (fun _ _ => ?_)
    | refine stp_vRange (fun _ _ => ?_) (fun _ => ?_) (fun _ _ => ?_)
    | refine stp_vLen (fun _ _ => ?_) (fun _ => ?_) (fun _ => ?_) (fun _ _ _ _ _ => ?_) (fun _ _ => ?_)
    | refine stp_vPtrE (fun _ => ?_) (fun _ _ _ => ?_)
    | refine stp_vU8 fun _ _ => ?_
    | refine stp_bnd (fun _ => ?_) (fun _ _ _ => ?_)
    | refine stp_withMap fun _ _ _ => ?_
    | refine stp_withRow fun _ _ _ _ => ?_
    | refine stp_withIter (fun _ _ _ => ?_) (fun _ _ _ _ _ => ?_)
    | refine stp_hit (fun _ => ?_) (fun _ _ _ => ?_)
    | refine stp_atMostOne (fun _ => ?_) (fun _ _ => ?_)
    | refine stp_args1 fun _ _ => ?_
    | refine stp_args2 fun _ _ _ => ?_
    | refine stp_ty1 fun _ _ _ => ?_

theorem stp_Next {q : Bool} {it : AV} : Stp s (opNext s q it) := by
  unfold opNext
  refine stp_vPtr fun b o _ => stp_chk fun _ => stp_withIter (fun l p h => stp_chk fun _ => stp_NextStr h) (fun m a b' c h => stp_chk fun _ => ?_)
  cases m with
  | none => exact stp_same
  | some m => exact stp_NextMap h

theorem stp_AppendCap {e : TypeId} {size b o len : Nat} {cap : Option Nat} {n : Nat} {new : List AV} {rd : List Nat} : Stp s (appendCap s e size b o len cap n new rd) := by
  unfold appendCap
  cases cap
  all_goals repeat' first
    | exact stp_AppendOpen
    | exact stp_AppendKnown
    | exact stp_same
    | exact stp_new
    | exact fun h => .setNew s _ _ h
    | exact fun _ => .set s _ none (.inr rfl)
    | exact fun _ => .setL (by assumption)
    | exact (rfl : _ = _)
    | trivial
    | refine stp_chk fun _ => ?_
    | refine stp_iff (fun _ => ?_) (fun _ => ?_)
    | refine stp_oTI fun _ _ => ?_
    | refine stp_oCells fun _ _ => ?_
    | refine stp_oAV fun _ _ => ?_
    | refine stp_oSt fun _ hw => ?_
    | exact fun _ => .write (by assumption)
    | refine stp_oBlk fun _ _ => ?_
    | refine stp_oNat fun _ _ => ?_
    | refine stp_oBytes fun _ _ => ?_
    | refine stp_oKind fun _ _ => ?_
    | refine stp_oElem fun _ _ => ?_
    | refine stp_oPair fun _ _ => ?_
    | refine stp_oFound fun _ _ => ?_
    | refine stp_oDec fun _ _ => ?_
    | refine stp_oMeth fun _ _ => ?_
    | refine stp_oSrc fun _ _ => ?_
    | refine stp_oVal fun _ _ => ?_
    | refine stp_oEl (fun _ _ => ?_) (fun _ => ?_)
    | refine stp_vPtr fun _ _ _ => ?_
    | refine stp_vInt fun _ _ _ => ?_
    | refine stp_vNat fun _ _ _ => ?_
    | refine stp_vStr fun _ _ => ?_
    | refine stp_vAgg fun _ _ => ?_
    | refine stp_vTup fun _ _ => ?_
    | refine stp_vMap fun _ _ => ?_
    | refine stp_vBool fun _ _ => ?_
    | refine stp_vIface fun _ _ _ => ?_
    | refine stp_vFn fun _ _ _ _ => ?_
    | refine stp_vSlE (fun _ => ?_) (fun _ _ _ _ _ => ?_)
    | refine stp_vMapE (fun _ => ?_) (fun _ _ => ?_)
    | refine stp_vIfaceE (fun _ => ?_) (fun _ _ _ => ?_)
    | refine stp_vNonNil (fun _ _ _ => ?_) (fun _ _ _ => ?_) (fun _ _ _ _ => ?_)
    | refine stp_vConv (fun _ _ _ => ?_) (fun _ _ => ?_) (fun _ => ?_) (fun _ _ _ _ _ => ?_) (fun _ _ _ => ?_)
    | refine stp_vCut (fun _ _ => ?_) (fun _ => ?_) (fun _ _ _ _ _ => ?_) (fun _ _ _ => ?_)
    | refine stp_vIdx (fun _ _ _ _ _ => ?_) (fun _ _ _ => ?_)
    | refine stp_vIdxV (fun _ _ => ?_) (fun _ _ => ?_)
    | refine stp_vRange (fun _ _ => ?_) (fun _ => ?_) (fun _ _ => ?_)
    | refine stp_vLen (fun _ _ => ?_) (fun _ => ?_) (fun _ => ?_) (fun _ _ _ _ _ => ?_) (fun _ _ => ?_)
    | refine stp_vPtrE (fun _ => ?_) (fun _ _ _ => ?_)
    | refine stp_vU8 fun _ _ => ?_
    | refine stp_bnd (fun _ => ?_) (fun _ _ _ => ?_)
    | refine stp_withMap fun _ _ _ => ?_
    | refine stp_withRow fun _ _ _ _ => ?_
    | refine stp_withIter (fun _ _ _ => ?_) (fun _ _ _ _ _ => ?_)
    | refine stp_hit (fun _ => ?_) (fun _ _ _ => ?_)
    | refine stp_atMostOne (fun _ => ?_) (fun _ _ => ?_)
    | refine stp_args1 fun _ _ => ?_
    | refine stp_args2 fun _ _ _ => ?_
    | refine stp_ty1 fun _ _ _ => ?_

theorem stp_AppendSl {e : TypeId} {te : TI} {b o len : Nat} {cap : Option Nat} {n : Nat} {y : AV} : Stp s (appendSl s e te b o len cap n y) := by
  unfold appendSl
  repeat' first
    | exact stp_AppendCap
    | exact stp_same
    | exact stp_new
    | exact fun h => .setNew s _ _ h
    | exact fun _ => .set s _ none (.inr rfl)
    | exact fun _ => .setL (by assumption)
    | exact (rfl : _ = _)
    | trivial
    | refine stp_chk fun _ => ?_
    | refine stp_iff (fun _ => ?_) (fun _ => ?_)
    | refine stp_oTI fun _ _ => ?_
    | refine stp_oCells fun _ _ => ?_
    | refine stp_oAV fun _ _ => ?_
    | refine stp_oSt fun _ hw => ?_
    | exact fun _ => .write (by assumption)
    | refine stp_oBlk fun _ _ => ?_
    | refine stp_oNat fun _ _ => ?_
    | refine stp_oBytes fun _ _ => ?_
    | refine stp_oKind fun _ _ => ?_
    | refine stp_oElem fun _ _ => ?_
    | refine stp_oPair fun _ _ => ?_
    | refine stp_oFound fun _ _ => ?_
    | refine stp_oDec fun _ _ => ?_
    | refine stp_oMeth fun _ _ => ?_
    | refine stp_oSrc fun _ _ => ?_
    | refine stp_oVal fun _ _ => ?_
    | refine stp_oEl (fun _ _ => ?_) (fun _ => ?_)
    | refine stp_vPtr fun _ _ _ => ?_
    | refine stp_vInt fun _ _ _ => ?_
    | refine stp_vNat fun _ _ _ => ?_
    | refine stp_vStr fun _ _ => ?_
    | refine stp_vAgg fun _ _ => ?_
    | refine stp_vTup fun _ _ => ?_
    | refine stp_vMap fun _ _ => ?_
    | refine stp_vBool fun _ _ => ?_
    | refine stp_vIface fun _ _ _ => ?_
    | refine stp_vFn fun _ _ _ _ => ?_
    | refine stp_vSlE (fun _ => ?_) (fun _ _ _ _ _ => ?_)
    | refine stp_vMapE (fun _ => ?_) (fun _ _ => ?_)
    | refine stp_vIfaceE (fun _ => ?_) (fun _ _ _ => ?_)
    | refine stp_vNonNil (fun _ _ _ => ?_) (fun _ _ _ => ?_) (fun _ _ _ _ => ?_)
    | refine stp_vConv (fun _ _ _ => ?_) (fun _ _ => ?_) (fun _ => ?_) (fun _ _ _ _ _ => ?_) (fun _ _ _ => ?_)
    | refine stp_vCut (fun _ _ => ?_) (fun _ => ?_) (fun _ _ _ _ _ => ?_) (fun _ _ _ => ?_)
    | refine stp_vIdx (fun _ _ _ _ _ => ?_) (fun _ _ _ => ?_)
    | refine stp_vIdxV (fun _ _ => ?_) (fun _ _ => ?_)
    | refine stp_vRange (fun _ _ => ?_) (fun _ => ?_) (fun _ _ => ?_)
    | refine stp_vLen (fun _ _ => ?_) (fun _ => ?_) (fun _ => ?_) (fun _ _ _ _ _ => ?_) (fun _ _ => ?_)
    | refine stp_vPtrE (fun _ => ?_) (fun _ _ _ => ?_)
    | refine stp_vU8 fun _ _ => ?_
    | refine stp_bnd (fun _ => ?_) (fun _ _ _ => ?_)
    | refine stp_withMap fun _ _ _ => ?_
    | refine stp_withRow fun _ _ _ _ => ?_
    | refine stp_withIter (fun _ _ _ => ?_) (fun _ _ _ _ _ => ?_)
    | refine stp_hit (fun _ => ?_) (fun _ _ _ => ?_)
    | refine stp_atMostOne (fun _ => ?_) (fun _ _ => ?_)
    | refine stp_args1 fun _ _ => ?_
    | refine stp_args2 fun _ _ _ => ?_
    | refine stp_ty1 fun _ _ _ => ?_

theorem stp_AppendTo {e : TypeId} {te : TI} {n : Nat} {x y : AV} : Stp s (appendTo s e te n x y) := by
  unfold appendTo
  repeat' first
    | exact stp_AppendNil
    | exact stp_AppendSl
    | exact stp_same
    | exact stp_new
    | exact fun h => .setNew s _ _ h
    | exact fun _ => .set s _ none (.inr rfl)
    | exact fun _ => .setL (by assumption)
    | exact (rfl : _ = _)
    | trivial
    | refine stp_chk fun _ => ?_
    | refine stp_iff (fun _ => ?_) (fun _ => ?_)
    | refine stp_oTI fun _ _ => ?_
    | refine stp_oCells fun _ _ => ?_
    | refine stp_oAV fun _ _ => ?_
    | refine stp_oSt fun _ hw => ?_
    | exact fun _ => .write (by assumption)
    | refine stp_oBlk fun _ _ => ?_
    | refine stp_oNat fun _ _ => ?_
    | refine stp_oBytes fun _ _ => ?_
    | refine stp_oKind fun _ _ => ?_
    | refine stp_oElem fun _ _ => ?_
    | refine stp_oPair fun _ _ => ?_
    | refine stp_oFound fun _ _ => ?_
    | refine stp_oDec fun _ _ => ?_
    | refine stp_oMeth fun _ _ => ?_
    | refine stp_oSrc fun _ _ => ?_
    | refine stp_oVal fun _ _ => ?_
    | refine stp_oEl (fun _ _ => ?_) (fun _ => ?_)
    | refine stp_vPtr fun _ _ _ => ?_
    | refine stp_vInt fun _ _ _ => ?_
    | refine stp_vNat fun _ _ _ => ?_
    | refine stp_vStr fun _ _ => ?_
    | refine stp_vAgg fun _ _ => ?_
    | refine stp_vTup fun _ _ => ?_
    | refine stp_vMap fun _ _ => ?_
    | refine stp_vBool fun _ _ => ?_
    | refine stp_vIface fun _ _ _ => ?_
    | refine stp_vFn fun _ _ _ _ => ?_
    | refine stp_vSlE (fun _ => ?_) (fun _ _ _ _ _ => ?_)
    | refine stp_vMapE (fun _ => ?_) (fun _ _ => ?_)
    | refine stp_vIfaceE (fun _ => ?_) (fun _ _ _ => ?_)
    | refine stp_vNonNil (fun _ _ _ => ?_) (fun _ _ _ => ?_) (fun _ _ _ _ => ?_)
    | refine stp_vConv (fun _ _ _ => ?_) (fun _ _ => ?_) (fun _ => ?_) (fun _ _ _ _ _ => ?_) (fun _ _ _ => ?_)
    | refine stp_vCut (fun _ _ => ?_) (fun _ => ?_) (fun _ _ _ _ _ => ?_) (fun _ _ _ => ?_)
    | refine stp_vIdx (fun _ _ _ _ _ => ?_) (fun _ _ _ => ?_)
    | refine stp_vIdxV (fun _ _ => ?_) (fun _ _ => ?_)
    | refine stp_vRange (fun _ _ => ?_) (fun _ => ?_) (fun _ _ => ?_)
    | refine stp_vLen (fun _ _ => ?_) (fun _ => ?_) (fun _ => ?_) (fun _ _ _ _ _ => ?_) (fun _ _ => ?_)
    | refine stp_vPtrE (fun _ => ?_) (fun _ _ _ => ?_)
    | refine stp_vU8 fun _ _ => ?_
    | refine stp_bnd (fun _ => ?_) (fun _ _ _ => ?_)
    | refine stp_withMap fun _ _ _ => ?_
    | refine stp_withRow fun _ _ _ _ => ?_
    | refine stp_withIter (fun _ _ _ => ?_) (fun _ _ _ _ _ => ?_)
    | refine stp_hit (fun _ => ?_) (fun _ _ _ => ?_)
    | refine stp_atMostOne (fun _ => ?_) (fun _ _ => ?_)
    | refine stp_args1 fun _ _ => ?_
    | refine stp_args2 fun _ _ _ => ?_
    | refine stp_ty1 fun _ _ _ => ?_

theorem stp_Append {tt : Trie TI} {t t2 : TypeId} {x y : AV} : Stp s (opAppend tt s t t2 x y) := by
  unfold opAppend
  repeat' first
    | exact stp_AppendTo
    | exact stp_same
    | exact stp_new
    | exact fun h => .setNew s _ _ h
    | exact fun _ => .set s _ none (.inr rfl)
    | exact fun _ => .setL (by assumption)
    | exact (rfl : _ = _)
    | trivial
    | refine stp_chk fun _ => ?_
    | refine stp_iff (fun _ => ?_) (fun _ => ?_)
    | refine stp_oTI fun _ _ => ?_
    | refine stp_oCells fun _ _ => ?_
    | refine stp_oAV fun _ _ => ?_
    | refine stp_oSt fun _ hw => ?_
    | exact fun _ => .write (by assumption)
    | refine stp_oBlk fun _ _ => ?_
    | refine stp_oNat fun _ _ => ?_
    | refine stp_oBytes fun _ _ => ?_
    | refine stp_oKind fun _ _ => ?_
    | refine stp_oElem fun _ _ => ?_
    | refine stp_oPair fun _ _ => ?_
    | refine stp_oFound fun _ _ => ?_
    | refine stp_oDec fun _ _ => ?_
    | refine stp_oMeth fun _ _ => ?_
    | refine stp_oSrc fun _ _ => ?_
    | refine stp_oVal fun _ _ => ?_
    | refine stp_oEl (fun _ _ => ?_) (fun _ => ?_)
    | refine stp_vPtr fun _ _ _ => ?_
    | refine stp_vInt fun _ _ _ => ?_
    | refine stp_vNat fun _ _ _ => ?_
    | refine stp_vStr fun _ _ => ?_
    | refine stp_vAgg fun _ _ => ?_
    | refine stp_vTup fun _ _ => ?_
    | refine stp_vMap fun _ _ => ?_
    | refine stp_vBool fun _ _ => ?_
    | refine stp_vIface fun _ _ _ => ?_
    | refine stp_vFn fun _ _ _ _ => ?_
    | refine stp_vSlE (fun _ => ?_) (fun _ _ _ _ _ => ?_)
    | refine stp_vMapE (fun _ => ?_) (fun _ _ => ?_)
    | refine stp_vIfaceE (fun _ => ?_) (fun _ _ _ => ?_)
    | refine stp_vNonNil (fun _ _ _ => ?_) (fun _ _ _ => ?_) (fun _ _ _ _ => ?_)
    | refine stp_vConv (fun _ _ _ => ?_) (fun _ _ => ?_) (fun _ => ?_) (fun _ _ _ _ _ => ?_) (fun _ _ _ => ?_)
    | refine stp_vCut (fun _ _ => ?_) (fun _ => ?_) (fun _ _ _ _ _ => ?_) (fun _ _ _ => ?_)
    | refine stp_vIdx (fun _ _ _ _ _ => ?_) (fun _ _ _ => ?_)
    | refine stp_vIdxV (fun _ _ => ?_) (fun _ _ => ?_)
    | refine stp_vRange (fun _ _ => ?_) (fun _ => ?_) (fun _ _ => ?_)
    | refine stp_vLen (fun _ _ => ?_) (fun _ => ?_) (fun _ => ?_) (fun _ _ _ _ _ => ?_) (fun _ _ => ?_)
    | refine stp_vPtrE (fun _ => ?_) (fun _ _ _ => ?_)
    | refine stp_vU8 fun _ _ => ?_
    | refine stp_bnd (fun _ => ?_) (fun _ _ _ => ?_)
    | refine stp_withMap fun _ _ _ => ?_
    | refine stp_withRow fun _ _ _ _ => ?_
    | refine stp_withIter (fun _ _ _ => ?_) (fun _ _ _ _ _ => ?_)
    | refine stp_hit (fun _ => ?_) (fun _ _ _ => ?_)
    | refine stp_atMostOne (fun _ => ?_) (fun _ _ => ?_)
    | refine stp_args1 fun _ _ => ?_
    | refine stp_args2 fun _ _ _ => ?_
    | refine stp_ty1 fun _ _ _ => ?_

theorem stp_Copy {tt : Trie TI} {t : TypeId} {x y : AV} : Stp s (opCopy tt s t x y) := by
  unfold opCopy
  repeat' first
    | exact stp_CopyTo
    | exact stp_same
    | exact stp_new
    | exact fun h => .setNew s _ _ h
    | exact fun _ => .set s _ none (.inr rfl)
    | exact fun _ => .setL (by assumption)
    | exact (rfl : _ = _)
    | trivial
    | refine stp_chk fun _ => ?_
    | refine stp_iff (fun _ => ?_) (fun _ => ?_)
    | refine stp_oTI fun _ _ => ?_
    | refine stp_oCells fun _ _ => ?_
    | refine stp_oAV fun _ _ => ?_
    | refine stp_oSt fun _ hw => ?_
    | exact fun _ => .write (by assumption)
    | refine stp_oBlk fun _ _ => ?_
    | refine stp_oNat fun _ _ => ?_
    | refine stp_oBytes fun _ _ => ?_
    | refine stp_oKind fun _ _ => ?_
    | refine stp_oElem fun _ _ => ?_
    | refine stp_oPair fun _ _ => ?_
    | refine stp_oFound fun _ _ => ?_
    | refine stp_oDec fun _ _ => ?_
    | refine stp_oMeth fun _ _ => ?_
    | refine stp_oSrc fun _ _ => ?_
    | refine stp_oVal fun _ _ => ?_
    | refine stp_oEl (fun _ _ => ?_) (fun _ => ?_)
    | refine stp_vPtr fun _ _ _ => ?_
    | refine stp_vInt fun _ _ _ => ?_
    | refine stp_vNat fun _ _ _ => ?_
    | refine stp_vStr fun _ _ => ?_
    | refine stp_vAgg fun _ _ => ?_
    | refine stp_vTup fun _ _ => ?_
    | refine stp_vMap fun _ _ => ?_
    | refine stp_vBool fun _ _ => ?_
    | refine stp_vIface fun _ _ _ => ?_
    | refine stp_vFn fun _ _ _ _ => ?_
    | refine stp_vSlE (fun _ => ?_) (fun _ _ _ _ _ => ?_)
    | refine stp_vMapE (fun _ => ?_) (fun _ _ => ?_)
    | refine stp_vIfaceE (fun _ => ?_) (fun _ _ _ => ?_)
    | refine stp_vNonNil (fun _ _ _ => ?_) (fun _ _ _ => ?_) (fun _ _ _ _ => ?_)
    | refine stp_vConv (fun _ _ _ => ?_) (fun _ _ => ?_) (fun _ => ?_) (fun _ _ _ _ _ => ?_) (fun _ _ _ => ?_)
    | refine stp_vCut (fun _ _ => ?_) (fun _ => ?_) (fun _ _ _ _ _ => ?_) (fun _ _ _ => ?_)
    | refine stp_vIdx (fun _ _ _ _ _ => ?_) (fun _ _ _ => ?_)
    | refine stp_vIdxV (fun _ _ => ?_) (fun _ _ => ?_)
    | refine stp_vRange (fun _ _ => ?_) (fun _ => ?_) (fun _ _ => ?_)
    | refine stp_vLen (fun _ _ => ?_) (fun _ => ?_) (fun _ => ?_) (fun _ _ _ _ _ => ?_) (fun _ _ => ?_)
    | refine stp_vPtrE (fun _ => ?_) (fun _ _ _ => ?_)
    | refine stp_vU8 fun _ _ => ?_
    | refine stp_bnd (fun _ => ?_) (fun _ _ _ => ?_)
    | refine stp_withMap fun _ _ _ => ?_
    | refine stp_withRow fun _ _ _ _ => ?_
    | refine stp_withIter (fun _ _ _ => ?_) (fun _ _ _ _ _ => ?_)
    | refine stp_hit (fun _ => ?_) (fun _ _ _ => ?_)
    | refine stp_atMostOne (fun _ => ?_) (fun _ _ => ?_)
    | refine stp_args1 fun _ _ => ?_
    | refine stp_args2 fun _ _ _ => ?_
    | refine stp_ty1 fun _ _ _ => ?_

theorem stp_MakeMap {tt : Trie TI} {t : TypeId} {r : Option AV} : Stp s (opMakeMap tt s t r) := by
  unfold opMakeMap
  unfold newMap
  cases r
  all_goals repeat' first
    | exact stp_same
    | exact stp_new
    | exact fun h => .setNew s _ _ h
    | exact fun _ => .set s _ none (.inr rfl)
    | exact fun _ => .setL (by assumption)
    | exact (rfl : _ = _)
    | trivial
    | refine stp_chk fun _ => ?_
    | refine stp_iff (fun _ => ?_) (fun _ => ?_)
    | refine stp_oTI fun _ _ => ?_
    | refine stp_oCells fun _ _ => ?_
    | refine stp_oAV fun _ _ => ?_
    | refine stp_oSt fun _ hw => ?_
    | exact fun _ => .write (by assumption)
    | refine stp_oBlk fun _ _ => ?_
    | refine stp_oNat fun _ _ => ?_
    | refine stp_oBytes fun _ _ => ?_
    | refine stp_oKind fun _ _ => ?_
    | refine stp_oElem fun _ _ => ?_
    | refine stp_oPair fun _ _ => ?_
    | refine stp_oFound fun _ _ => ?_
    | refine stp_oDec fun _ _ => ?_
    | refine stp_oMeth fun _ _ => ?_
    | refine stp_oSrc fun _ _ => ?_
    | refine stp_oVal fun _ _ => ?_
    | refine stp_oEl (fun _ _ => ?_) (fun _ => ?_)
    | refine stp_vPtr fun _ _ _ => ?_
    | refine stp_vInt fun _ _ _ => ?_
    | refine stp_vNat fun _ _ _ => ?_
    | refine stp_vStr fun _ _ => ?_
    | refine stp_vAgg fun _ _ => ?_
    | refine stp_vTup fun _ _ => ?_
    | refine stp_vMap fun _ _ => ?_
    | refine stp_vBool fun _ _ => ?_
    | refine stp_vIface fun _ _ _ => ?_
    | refine stp_vFn fun _ _ _ _ => ?_
    | refine stp_vSlE (fun _ => ?_) (fun _ _ _ _ _ => ?_)
    | refine stp_vMapE (fun _ => ?_) (fun _ _ => ?_)
    | refine stp_vIfaceE (fun _ => ?_) (fun _ _ _ => ?_)
    | refine stp_vNonNil (fun _ _ _ => ?_) (fun _ _ _ => ?_) (fun _ _ _ _ => ?_)
    | refine stp_vConv (fun _ _ _ => ?_) (fun _ _ => ?_) (fun _ => ?_) (fun _ _ _ _ _ => ?_) (fun _ _ _ => ?_)
    | refine stp_vCut (fun _ _ => ?_) (fun _ => ?_) (fun _ _ _ _ _ => ?_) (fun _ _ _ => ?_)
    | refine stp_vIdx (fun _ _ _ _ _ => ?_) (fun _ _ _ => ?_)
    | refine stp_vIdxV (fun _ _ => ?_) (fun _ _ => ?_)
    | refine stp_vRange (fun _ _ => ?_) (fun _ => ?_) (fun _ _ => ?_)
    | refine stp_vLen (fun _ _ => ?_) (fun _ => ?_) (fun _ => ?_) (fun _ _ _ _ _ => ?_) (fun _ _ => ?_)
    | refine stp_vPtrE (fun _ => ?_) (fun _ _ _ => ?_)
    | refine stp_vU8 fun _ _ => ?_
    | refine stp_bnd (fun _ => ?_) (fun _ _ _ => ?_)
    | refine stp_withMap fun _ _ _ => ?_
    | refine stp_withRow fun _ _ _ _ => ?_
    | refine stp_withIter (fun _ _ _ => ?_) (fun _ _ _ _ _ => ?_)
    | refine stp_hit (fun _ => ?_) (fun _ _ _ => ?_)
    | refine stp_atMostOne (fun _ => ?_) (fun _ _ => ?_)
    | refine stp_args1 fun _ _ => ?_
    | refine stp_args2 fun _ _ _ => ?_
    | refine stp_ty1 fun _ _ _ => ?_

theorem stp_Ext {k : Nat} {l : List AV} : Stp s (extF k l s) := by
  unfold extF
  unfold goI
  split
  all_goals repeat' first
    | exact stp_same
    | exact stp_new
    | exact fun h => .setNew s _ _ h
    | exact fun _ => .set s _ none (.inr rfl)
    | exact fun _ => .setL (by assumption)
    | exact (rfl : _ = _)
    | trivial
    | refine stp_chk fun _ => ?_
    | refine stp_iff (fun _ => ?_) (fun _ => ?_)
    | refine stp_oTI fun _ _ => ?_
    | refine stp_oCells fun _ _ => ?_
    | refine stp_oAV fun _ _ => ?_
    | refine stp_oSt fun _ hw => ?_
    | exact fun _ => .write (by assumption)
    | refine stp_oBlk fun _ _ => ?_
    | refine stp_oNat fun _ _ => ?_
    | refine stp_oBytes fun _ _ => ?_
    | refine stp_oKind fun _ _ => ?_
    | refine stp_oElem fun _ _ => ?_
    | refine stp_oPair fun _ _ => ?_
    | refine stp_oFound fun _ _ => ?_
    | refine stp_oDec fun _ _ => ?_
    | refine stp_oMeth fun _ _ => ?_
    | refine stp_oSrc fun _ _ => ?_
    | refine stp_oVal fun _ _ => ?_
    | refine stp_oEl (fun _ _ => ?_) (fun _ => ?_)
    | refine stp_vPtr fun _ _ _ => ?_
    | refine stp_vInt fun _ _ _ => ?_
    | refine stp_vNat fun _ _ _ => ?_
    | refine stp_vStr fun _ _ => ?_
    | refine stp_vAgg fun _ _ => ?_
    | refine stp_vTup fun _ _ => ?_
    | refine stp_vMap fun _ _ => ?_
    | refine stp_vBool fun _ _ => ?_
    | refine stp_vIface fun _ _ _ => ?_
    | refine stp_vFn fun _ _ _ _ => ?_
    | refine stp_vSlE (fun _ => ?_) (fun _ _ _ _ _ => ?_)
    | refine stp_vMapE (fun _ => ?_) (fun _ _ => ?_)
    | refine stp_vIfaceE (fun _ => ?_) (fun _ _ _ => ?_)
    | refine stp_vNonNil (fun _ _ _ => ?_) (fun _ _ _ => ?_) (fun _ _ _ _ => ?_)
    | refine stp_vConv (fun _ _ _ => ?_) (fun _ _ => ?_) (fun _ => ?_) (fun _ _ _ _ _ => ?_) (fun _ _ _ => ?_)
    | refine stp_vCut (fun _ _ => ?_) (fun _ => ?_) (fun _ _ _ _ _ => ?_) (fun _ _ _ => ?_)
    | refine stp_vIdx (fun _ _ _ _ _ => ?_) (fun _ _ _ => ?_)
    | refine stp_vIdxV (fun _ _ => ?_) (fun _ _ => ?_)
    | refine stp_vRange (fun _ _ => ?_) (fun _ => ?_) (fun _ _ => ?_)
    | refine stp_vLen (fun _ _ => ?_) (fun _ => ?_) (fun _ => ?_) (fun _ _ _ _ _ => ?_) (fun _ _ => ?_)
    | refine stp_vPtrE (fun _ => ?_) (fun _ _ _ => ?_)
    | refine stp_vU8 fun _ _ => ?_
    | refine stp_bnd (fun _ => ?_) (fun _ _ _ => ?_)
    | refine stp_withMap fun _ _ _ => ?_
    | refine stp_withRow fun _ _ _ _ => ?_
    | refine stp_withIter (fun _ _ _ => ?_) (fun _ _ _ _ _ => ?_)
    | refine stp_hit (fun _ => ?_) (fun _ _ _ => ?_)
    | refine stp_atMostOne (fun _ => ?_) (fun _ _ => ?_)
    | refine stp_args1 fun _ _ => ?_
    | refine stp_args2 fun _ _ _ => ?_
    | refine stp_ty1 fun _ _ _ => ?_

theorem stp_Enter {E : Env} {f : FuncId} {l : List AV} : Stp s (opEnter E s f l) := by
  unfold opEnter
  cases E.ext.get f
  all_goals repeat' first
    | exact stp_Ext
    | exact stp_same
    | exact stp_new
    | exact fun h => .setNew s _ _ h
    | exact fun _ => .set s _ none (.inr rfl)
    | exact fun _ => .setL (by assumption)
    | exact (rfl : _ = _)
    | trivial
    | refine stp_chk fun _ => ?_
    | refine stp_iff (fun _ => ?_) (fun _ => ?_)
    | refine stp_oTI fun _ _ => ?_
    | refine stp_oCells fun _ _ => ?_
    | refine stp_oAV fun _ _ => ?_
    | refine stp_oSt fun _ hw => ?_
    | exact fun _ => .write (by assumption)
    | refine stp_oBlk fun _ _ => ?_
    | refine stp_oNat fun _ _ => ?_
    | refine stp_oBytes fun _ _ => ?_
    | refine stp_oKind fun _ _ => ?_
    | refine stp_oElem fun _ _ => ?_
    | refine stp_oPair fun _ _ => ?_
    | refine stp_oFound fun _ _ => ?_
    | refine stp_oDec fun _ _ => ?_
    | refine stp_oMeth fun _ _ => ?_
    | refine stp_oSrc fun _ _ => ?_
    | refine stp_oVal fun _ _ => ?_
    | refine stp_oEl (fun _ _ => ?_) (fun _ => ?_)
    | refine stp_vPtr fun _ _ _ => ?_
    | refine stp_vInt fun _ _ _ => ?_
    | refine stp_vNat fun _ _ _ => ?_
    | refine stp_vStr fun _ _ => ?_
    | refine stp_vAgg fun _ _ => ?_
    | refine stp_vTup fun _ _ => ?_
    | refine stp_vMap fun _ _ => ?_
    | refine stp_vBool fun _ _ => ?_
    | refine stp_vIface fun _ _ _ => ?_
    | refine stp_vFn fun _ _ _ _ => ?_
    | refine stp_vSlE (fun _ => ?_) (fun _ _ _ _ _ => ?_)
    | refine stp_vMapE (fun _ => ?_) (fun _ _ => ?_)
    | refine stp_vIfaceE (fun _ => ?_) (fun _ _ _ => ?_)
    | refine stp_vNonNil (fun _ _ _ => ?_) (fun _ _ _ => ?_) (fun _ _ _ _ => ?_)
    | refine stp_vConv (fun _ _ _ => ?_) (fun _ _ => ?_) (fun _ => ?_) (fun _ _ _ _ _ => ?_) (fun _ _ _ => ?_)
    | refine stp_vCut (fun _ _ => ?_) (fun _ => ?_) (fun _ _ _ _ _ => ?_) (fun _ _ _ => ?_)
    | refine stp_vIdx (fun _ _ _ _ _ => ?_) (fun _ _ _ => ?_)
    | refine stp_vIdxV (fun _ _ => ?_) (fun _ _ => ?_)
    | refine stp_vRange (fun _ _ => ?_) (fun _ => ?_) (fun _ _ => ?_)
    | refine stp_vLen (fun _ _ => ?_) (fun _ => ?_) (fun _ => ?_) (fun _ _ _ _ _ => ?_) (fun _ _ => ?_)
    | refine stp_vPtrE (fun _ => ?_) (fun _ _ _ => ?_)
    | refine stp_vU8 fun _ _ => ?_
    | refine stp_bnd (fun _ => ?_) (fun _ _ _ => ?_)
    | refine stp_withMap fun _ _ _ => ?_
    | refine stp_withRow fun _ _ _ _ => ?_
    | refine stp_withIter (fun _ _ _ => ?_) (fun _ _ _ _ _ => ?_)
    | refine stp_hit (fun _ => ?_) (fun _ _ _ => ?_)
    | refine stp_atMostOne (fun _ => ?_) (fun _ _ => ?_)
    | refine stp_args1 fun _ _ => ?_
    | refine stp_args2 fun _ _ _ => ?_
    | refine stp_ty1 fun _ _ _ => ?_

theorem stp_CallV {E : Env} {f : AV} {l : List AV} : Stp s (opCallV E s f l) := by
  unfold opCallV
  repeat' first
    | exact stp_Enter
    | exact stp_same
    | exact stp_new
    | exact fun h => .setNew s _ _ h
    | exact fun _ => .set s _ none (.inr rfl)
    | exact fun _ => .setL (by assumption)
    | exact (rfl : _ = _)
    | trivial
    | refine stp_chk fun _ => ?_
    | refine stp_iff (fun _ => ?_) (fun _ => ?_)
    | refine stp_oTI fun _ _ => ?_
    | refine stp_oCells fun _ _ => ?_
    | refine stp_oAV fun _ _ => ?_
    | refine stp_oSt fun _ hw => ?_
    | exact fun _ => .write (by assumption)
    | refine stp_oBlk fun _ _ => ?_
    | refine stp_oNat fun _ _ => ?_
    | refine stp_oBytes fun _ _ => ?_
    | refine stp_oKind fun _ _ => ?_
    | refine stp_oElem fun _ _ => ?_
    | refine stp_oPair fun _ _ => ?_
    | refine stp_oFound fun _ _ => ?_
    | refine stp_oDec fun _ _ => ?_
    | refine stp_oMeth fun _ _ => ?_
    | refine stp_oSrc fun _ _ => ?_
    | refine stp_oVal fun _ _ => ?_
    | refine stp_oEl (fun _ _ => ?_) (fun _ => ?_)
    | refine stp_vPtr fun _ _ _ => ?_
    | refine stp_vInt fun _ _ _ => ?_
    | refine stp_vNat fun _ _ _ => ?_
    | refine stp_vStr fun _ _ => ?_
    | refine stp_vAgg fun _ _ => ?_
    | refine stp_vTup fun _ _ => ?_
    | refine stp_vMap fun _ _ => ?_
    | refine stp_vBool fun _ _ => ?_
    | refine stp_vIface fun _ _ _ => ?_
    | refine stp_vFn fun _ _ _ _ => ?_
    | refine stp_vSlE (fun _ => ?_) (fun _ _ _ _ _ => ?_)
    | refine stp_vMapE (fun _ => ?_) (fun _ _ => ?_)
    | refine stp_vIfaceE (fun _ => ?_) (fun _ _ _ => ?_)
    | refine stp_vNonNil (fun _ _ _ => ?_) (fun _ _ _ => ?_) (fun _ _ _ _ => ?_)
    | refine stp_vConv (fun _ _ _ => ?_) (fun _ _ => ?_) (fun _ => ?_) (fun _ _ _ _ _ => ?_) (fun _ _ _ => ?_)
    | refine stp_vCut (fun _ _ => ?_) (fun _ => ?_) (fun _ _ _ _ _ => ?_) (fun _ _ _ => ?_)
    | refine stp_vIdx (fun _ _ _ _ _ => ?_) (fun _ _ _ => ?_)
    | refine stp_vIdxV (fun _ _ => ?_) (fun _ _ => ?_)
    | refine stp_vRange (fun _ _ => ?_) (fun _ => ?_) (fun _ _ => ?_)
    | refine stp_vLen (fun _ _ => ?_) (fun _ => ?_) (fun _ => ?_) (fun _ _ _ _ _ => ?_) (fun _ _ => ?_)
    | refine stp_vPtrE (fun _ => ?_) (fun _ _ _ => ?_)
    | refine stp_vU8 fun _ _ => ?_
    | refine stp_bnd (fun _ => ?_) (fun _ _ _ => ?_)
    | refine stp_withMap fun _ _ _ => ?_
    | refine stp_withRow fun _ _ _ _ => ?_
    | refine stp_withIter (fun _ _ _ => ?_) (fun _ _ _ _ _ => ?_)
    | refine stp_hit (fun _ => ?_) (fun _ _ _ => ?_)
    | refine stp_atMostOne (fun _ => ?_) (fun _ _ => ?_)
    | refine stp_args1 fun _ _ => ?_
    | refine stp_args2 fun _ _ _ => ?_
    | refine stp_ty1 fun _ _ _ => ?_

theorem stp_Invoke {tt : Trie TI} {n : String} {r : AV} {l : List AV} : Stp s (opInvoke tt n r l) := by
  unfold opInvoke
  repeat' first
    | exact stp_same
    | exact stp_new
    | exact fun h => .setNew s _ _ h
    | exact fun _ => .set s _ none (.inr rfl)
    | exact fun _ => .setL (by assumption)
    | exact (rfl : _ = _)
    | trivial
    | refine stp_chk fun _ => ?_
    | refine stp_iff (fun _ => ?_) (fun _ => ?_)
    | refine stp_oTI fun _ _ => ?_
    | refine stp_oCells fun _ _ => ?_
    | refine stp_oAV fun _ _ => ?_
    | refine stp_oSt fun _ hw => ?_
    | exact fun _ => .write (by assumption)
    | refine stp_oBlk fun _ _ => ?_
    | refine stp_oNat fun _ _ => ?_
    | refine stp_oBytes fun _ _ => ?_
    | refine stp_oKind fun _ _ => ?_
    | refine stp_oElem fun _ _ => ?_
    | refine stp_oPair fun _ _ => ?_
    | refine stp_oFound fun _ _ => ?_
    | refine stp_oDec fun _ _ => ?_
    | refine stp_oMeth fun _ _ => ?_
    | refine stp_oSrc fun _ _ => ?_
    | refine stp_oVal fun _ _ => ?_
    | refine stp_oEl (fun _ _ => ?_) (fun _ => ?_)
    | refine stp_vPtr fun _ _ _ => ?_
    | refine stp_vInt fun _ _ _ => ?_
    | refine stp_vNat fun _ _ _ => ?_
    | refine stp_vStr fun _ _ => ?_
    | refine stp_vAgg fun _ _ => ?_
    | refine stp_vTup fun _ _ => ?_
    | refine stp_vMap fun _ _ => ?_
    | refine stp_vBool fun _ _ => ?_
    | refine stp_vIface fun _ _ _ => ?_
    | refine stp_vFn fun _ _ _ _ => ?_
    | refine stp_vSlE (fun _ => ?_) (fun _ _ _ _ _ => ?_)
    | refine stp_vMapE (fun _ => ?_) (fun _ _ => ?_)
    | refine stp_vIfaceE (fun _ => ?_) (fun _ _ _ => ?_)
    | refine stp_vNonNil (fun _ _ _ => ?_) (fun _ _ _ => ?_) (fun _ _ _ _ => ?_)
    | refine stp_vConv (fun _ _ _ => ?_) (fun _ _ => ?_) (fun _ => ?_) (fun _ _ _ _ _ => ?_) (fun _ _ _ => ?_)
    | refine stp_vCut (fun _ _ => ?_) (fun _ => ?_) (fun _ _ _ _ _ => ?_) (fun _ _ _ => ?_)
    | refine stp_vIdx (fun _ _ _ _ _ => ?_) (fun _ _ _ => ?_)
    | refine stp_vIdxV (fun _ _ => ?_) (fun _ _ => ?_)
    | refine stp_vRange (fun _ _ => ?_) (fun _ => ?_) (fun _ _ => ?_)
    | refine stp_vLen (fun _ _ => ?_) (fun _ => ?_) (fun _ => ?_) (fun _ _ _ _ _ => ?_) (fun _ _ => ?_)
    | refine stp_vPtrE (fun _ => ?_) (fun _ _ _ => ?_)
    | refine stp_vU8 fun _ _ => ?_
    | refine stp_bnd (fun _ => ?_) (fun _ _ _ => ?_)
    | refine stp_withMap fun _ _ _ => ?_
    | refine stp_withRow fun _ _ _ _ => ?_
    | refine stp_withIter (fun _ _ _ => ?_) (fun _ _ _ _ _ => ?_)
    | refine stp_hit (fun _ => ?_) (fun _ _ _ => ?_)
    | refine stp_atMostOne (fun _ => ?_) (fun _ _ => ?_)
    | refine stp_args1 fun _ _ => ?_
    | refine stp_args2 fun _ _ _ => ?_
    | refine stp_ty1 fun _ _ _ => ?_

theorem stp_Builtin {b : Builtin} {tt : Trie TI} {ts : List TypeId} {l : List AV} : Stp s (opBuiltin b tt s ts l) := by
  unfold opBuiltin
  cases b
  all_goals repeat' first
    | exact stp_Append
    | exact stp_Copy
    | exact stp_Len
    | exact stp_Cap
    | exact stp_Max
    | exact stp_Min
    | exact stp_Clear
    | exact stp_UnsafeString
    | exact stp_SliceData
    | exact stp_same
    | exact stp_new
    | exact fun h => .setNew s _ _ h
    | exact fun _ => .set s _ none (.inr rfl)
    | exact fun _ => .setL (by assumption)
    | exact (rfl : _ = _)
    | trivial
    | refine stp_chk fun _ => ?_
    | refine stp_iff (fun _ => ?_) (fun _ => ?_)
    | refine stp_oTI fun _ _ => ?_
    | refine stp_oCells fun _ _ => ?_
    | refine stp_oAV fun _ _ => ?_
    | refine stp_oSt fun _ hw => ?_
    | exact fun _ => .write (by assumption)
    | refine stp_oBlk fun _ _ => ?_
    | refine stp_oNat fun _ _ => ?_
    | refine stp_oBytes fun _ _ => ?_
    | refine stp_oKind fun _ _ => ?_
    | refine stp_oElem fun _ _ => ?_
    | refine stp_oPair fun _ _ => ?_
    | refine stp_oFound fun _ _ => ?_
    | refine stp_oDec fun _ _ => ?_
    | refine stp_oMeth fun _ _ => ?_
    | refine stp_oSrc fun _ _ => ?_
    | refine stp_oVal fun _ _ => ?_
    | refine stp_oEl (fun _ _ => ?_) (fun _ => ?_)
    | refine stp_vPtr fun _ _ _ => ?_
    | refine stp_vInt fun _ _ _ => ?_
    | refine stp_vNat fun _ _ _ => ?_
    | refine stp_vStr fun _ _ => ?_
    | refine stp_vAgg fun _ _ => ?_
    | refine stp_vTup fun _ _ => ?_
    | refine stp_vMap fun _ _ => ?_
    | refine stp_vBool fun _ _ => ?_
    | refine stp_vIface fun _ _ _ => ?_
    | refine stp_vFn fun _ _ _ _ => ?_
    | refine stp_vSlE (fun _ => ?_) (fun _ _ _ _ _ => ?_)
    | refine stp_vMapE (fun _ => ?_) (fun _ _ => ?_)
    | refine stp_vIfaceE (fun _ => ?_) (fun _ _ _ => ?_)
    | refine stp_vNonNil (fun _ _ _ => ?_) (fun _ _ _ => ?_) (fun _ _ _ _ => ?_)
    | refine stp_vConv (fun _ _ _ => ?_) (fun _ _ => ?_) (fun _ => ?_) (fun _ _ _ _ _ => ?_) (fun _ _ _ => ?_)
    | refine stp_vCut (fun _ _ => ?_) (fun _ => ?_) (fun _ _ _ _ _ => ?_) (fun _ _ _ => ?_)
    | refine stp_vIdx (fun _ _ _ _ _ => ?_) (fun _ _ _ => ?_)
    | refine stp_vIdxV (fun _ _ => ?_) (fun _ _ => ?_)
    | refine stp_vRange (fun _ _ => ?_) (fun _ => ?_) (fun _ _ => ?_)
    | refine stp_vLen (fun _ _ => ?_) (fun _ => ?_) (fun _ => ?_) (fun _ _ _ _ _ => ?_) (fun _ _ => ?_)
    | refine stp_vPtrE (fun _ => ?_) (fun _ _ _ => ?_)
    | refine stp_vU8 fun _ _ => ?_
    | refine stp_bnd (fun _ => ?_) (fun _ _ _ => ?_)
    | refine stp_withMap fun _ _ _ => ?_
    | refine stp_withRow fun _ _ _ _ => ?_
    | refine stp_withIter (fun _ _ _ => ?_) (fun _ _ _ _ _ => ?_)
    | refine stp_hit (fun _ => ?_) (fun _ _ _ => ?_)
    | refine stp_atMostOne (fun _ => ?_) (fun _ _ => ?_)
    | refine stp_args1 fun _ _ => ?_
    | refine stp_args2 fun _ _ _ => ?_
    | refine stp_ty1 fun _ _ _ => ?_

theorem stp_Call {E : Env} {tm : Tmps} {c : Call} : Stp s (opCall E tm s c) := by
  unfold opCall
  split
  all_goals repeat' first
    | exact stp_CallV
    | exact stp_Invoke
    | exact stp_Builtin
    | exact stp_same
    | exact stp_new
    | exact fun h => .setNew s _ _ h
    | exact fun _ => .set s _ none (.inr rfl)
    | exact fun _ => .setL (by assumption)
    | exact (rfl : _ = _)
    | trivial
    | refine stp_chk fun _ => ?_
    | refine stp_iff (fun _ => ?_) (fun _ => ?_)
    | refine stp_oTI fun _ _ => ?_
    | refine stp_oCells fun _ _ => ?_
    | refine stp_oAV fun _ _ => ?_
    | refine stp_oSt fun _ hw => ?_
    | exact fun _ => .write (by assumption)
    | refine stp_oBlk fun _ _ => ?_
    | refine stp_oNat fun _ _ => ?_
    | refine stp_oBytes fun _ _ => ?_
    | refine stp_oKind fun _ _ => ?_
    | refine stp_oElem fun _ _ => ?_
    | refine stp_oPair fun _ _ => ?_
    | refine stp_oFound fun _ _ => ?_
    | refine stp_oDec fun _ _ => ?_
    | refine stp_oMeth fun _ _ => ?_
    | refine stp_oSrc fun _ _ => ?_
    | refine stp_oVal fun _ _ => ?_
    | refine stp_oEl (fun _ _ => ?_) (fun _ => ?_)
    | refine stp_vPtr fun _ _ _ => ?_
    | refine stp_vInt fun _ _ _ => ?_
    | refine stp_vNat fun _ _ _ => ?_
    | refine stp_vStr fun _ _ => ?_
    | refine stp_vAgg fun _ _ => ?_
    | refine stp_vTup fun _ _ => ?_
    | refine stp_vMap fun _ _ => ?_
    | refine stp_vBool fun _ _ => ?_
    | refine stp_vIface fun _ _ _ => ?_
    | refine stp_vFn fun _ _ _ _ => ?_
    | refine stp_vSlE (fun _ => ?_) (fun _ _ _ _ _ => ?_)
    | refine stp_vMapE (fun _ => ?_) (fun _ _ => ?_)
    | refine stp_vIfaceE (fun _ => ?_) (fun _ _ _ => ?_)
    | refine stp_vNonNil (fun _ _ _ => ?_) (fun _ _ _ => ?_) (fun _ _ _ _ => ?_)
    | refine stp_vConv (fun _ _ _ => ?_) (fun _ _ => ?_) (fun _ => ?_) (fun _ _ _ _ _ => ?_) (fun _ _ _ => ?_)
    | refine stp_vCut (fun _ _ => ?_) (fun _ => ?_) (fun _ _ _ _ _ => ?_) (fun _ _ _ => ?_)
    | refine stp_vIdx (fun _ _ _ _ _ => ?_) (fun _ _ _ => ?_)
    | refine stp_vIdxV (fun _ _ => ?_) (fun _ _ => ?_)
    | refine stp_vRange (fun _ _ => ?_) (fun _ => ?_) (fun _ _ => ?_)
    | refine stp_vLen (fun _ _ => ?_) (fun _ => ?_) (fun _ => ?_) (fun _ _ _ _ _ => ?_) (fun _ _ => ?_)
    | refine stp_vPtrE (fun _ => ?_) (fun _ _ _ => ?_)
    | refine stp_vU8 fun _ _ => ?_
    | refine stp_bnd (fun _ => ?_) (fun _ _ _ => ?_)
    | refine stp_withMap fun _ _ _ => ?_
    | refine stp_withRow fun _ _ _ _ => ?_
    | refine stp_withIter (fun _ _ _ => ?_) (fun _ _ _ _ _ => ?_)
    | refine stp_hit (fun _ => ?_) (fun _ _ _ => ?_)
    | refine stp_atMostOne (fun _ => ?_) (fun _ _ => ?_)
    | refine stp_args1 fun _ _ => ?_
    | refine stp_args2 fun _ _ _ => ?_
    | refine stp_ty1 fun _ _ _ => ?_

end
end Go.Dee
namespace Go.Dee
open Go

/-- every operation logs what it writes. -/
theorem aop_log {o : Op} {E : Env} {tm : Tmps} {s : St} : Stp s (aop o E tm s) := by
  cases o with
  | move x => exact stp_same
  | assign x => exact stp_same
  | pick c a b => exact stp_Pick
  | alloc t => exact stp_Alloc
  | box t x => exact stp_Box
  | build t ps => exact stp_Build
  | buildSlice t len ps => exact stp_BuildSlice
  | load t a => exact stp_Load
  | store t a x => exact stp_Store
  | nilCheck x => exact stp_NilCheck
  | binOp op t x y p => exact stp_Bin
  | unOp op t x => exact stp_Un
  | convert a b x => exact stp_Convert
  | makeInterface t x => exact stp_MakeIface
  | makeFunc f a b => exact stp_same
  | makeMap t r => exact stp_MakeMap
  | makeSlice t l c => exact stp_MakeSlice
  | slice t x lo hi mx => exact stp_Slice
  | fieldAddr t x f => exact stp_FieldAddr
  | field t x f => exact stp_Field
  | indexAddr t x i => exact stp_IndexAddr
  | index t x i => exact stp_Index
  | lookup t x i ok => exact stp_Lookup
  | mapUpdate t m k x => exact stp_MapSet
  | insert t m k x => exact stp_MapSet
  | range t x => exact stp_Range
  | next it isString => exact stp_Next
  | typeAssert x t a ok => exact stp_Assert
  | extract x i => exact stp_Extract
  | call c => exact stp_Call
  | defer c => exact stp_Defer
  | panic x => exact stp_Panic
  | _ => trivial

def LogU (s s' : St) : Prop := s'.n ≤ 65536 → Log s s'
theorem LogU.refl (s : St) : LogU s s := fun _ => .refl s
theorem LogU.trans {s s' s'' : St} (h : LogU s s') (h' : LogU s' s'') : LogU s s'' := fun hn =>
  have h2 := h' hn
  (h (Nat.le_trans h2.n hn)).trans h2
/-- nothing lies above the names that are given out. -/
def NA (s : St) : Prop := ∀ b, s.n ≤ b → b < 65536 → hget s.h b = none

/-! what a step comes to -/
section
variable {E : Env} {call : CallF} {ops l : List Oper} {o : Oper} {a a' : AAct} {s s' : St} {e : AExit} {x : AR} {fid : Nat}

theorem runOps_cons : runOps E call ops (o :: l) a s = if wantedA ops o.guard a.tm = true then stepOp call (aop o.op E a.tm s) o a s (runOps E call ops l) else runOps E call ops l (a.put o.dst .top) s := by
  show Bool.rec (motive := fun _ => Fin) (runOps E call ops l (a.put o.dst .top) s) (stepOp call (aop o.op E a.tm s) o a s (runOps E call ops l)) (wantedA ops o.guard a.tm) = _
  cases wantedA ops o.guard a.tm <;> rfl

theorem stepOp_ok {k : AAct → St → Fin} (h : stepOp call x o a s k = .ok e a' s') :
    (∃ v s1 rd, x = .val v s1 rd ∧ k (a.put o.dst v) s1 = .ok e a' s') ∨
    (∃ s1 rd, x = .skip s1 rd ∧ k (a.put o.dst .top) s1 = .ok e a' s') ∨
    (∃ f args v s1, x = .enter f args ∧ call f args s = .ret v s1 ∧ k (a.put o.dst v) s1 = .ok e a' s') ∨
    (∃ f args v s1, x = .enter f args ∧ call f args s = .panicked v s1 ∧ e = .panic v ∧ a' = a ∧ s' = s1) ∨
    (∃ f args, x = .defer f args ∧ k (AAct.put { tm := a.tm, ds := (f, args) :: a.ds } o.dst .top) s = .ok e a' s') ∨
    (∃ v s1, x = .panic v s1 ∧ e = .panic v ∧ a' = a ∧ s' = s1) := by
  cases x with
  | bad => cases h
  | val v s1 rd => exact .inl ⟨v, s1, rd, rfl, h⟩
  | skip s1 rd => exact .inr (.inl ⟨s1, rd, rfl, h⟩)
  | enter f args =>
    have h : endFin (call f args s) (fun v s' => k (a.put o.dst v) s') (fun v s' => .ok (.panic v) a s') = .ok e a' s' := h
    cases hc : call f args s with
    | bad => rw [hc] at h; cases h
    | ret v s1 => rw [hc] at h; exact .inr (.inr (.inl ⟨f, args, v, s1, rfl, hc, h⟩))
    | panicked v s1 => rw [hc] at h; cases h; exact .inr (.inr (.inr (.inl ⟨f, args, v, s', rfl, hc, rfl, rfl, rfl⟩)))
  | defer f args => exact .inr (.inr (.inr (.inr (.inl ⟨f, args, rfl, h⟩))))
  | recover => cases h
  | panic v s1 => cases h; exact .inr (.inr (.inr (.inr (.inr ⟨v, s', rfl, rfl, rfl, rfl⟩))))

def EndLog (s : St) (x : AEnd) : Prop := (∀ v s', x = .ret v s' → LogU s s') ∧ (∀ v s', x = .panicked v s' → LogU s s')
def CallLog (call : CallF) : Prop := ∀ f args s, EndLog s (call f args s)

theorem runOps_log (hc : CallLog call) : ∀ (l : List Oper) (a : AAct) (s : St) (e : AExit) (a' : AAct) (s' : St), runOps E call ops l a s = .ok e a' s' → LogU s s' := by
  intro l
  induction l with
  | nil => intro a s e a' s' h; cases h; exact .refl s
  | cons o l ih =>
    intro a s e a' s' h
    rw [runOps_cons] at h
    split at h
    · have hst := aop_log (o := o.op) (E := E) (tm := a.tm) (s := s)
      rcases stepOp_ok h with ⟨v, s1, rd, hx, hk⟩ | ⟨s1, rd, hx, hk⟩ | ⟨f, args, v, s1, hx, hcl, hk⟩ | ⟨f, args, v, s1, hx, hcl, _, _, rfl⟩ | ⟨f, args, hx, hk⟩ | ⟨v, s1, hx, _, _, rfl⟩
      · rw [hx] at hst; exact LogU.trans hst (ih _ _ _ _ _ hk)
      · rw [hx] at hst; exact LogU.trans hst (ih _ _ _ _ _ hk)
      · exact LogU.trans ((hc f args s).1 _ _ hcl) (ih _ _ _ _ _ hk)
      · exact (hc f args s).2 _ _ hcl
      · exact ih _ _ _ _ _ hk
      · rw [hx] at hst
        have : s' = s := hst
        subst this
        exact .refl _
    · exact ih _ _ _ _ _ h

/-! regions that draw -/
theorem mem_oldOnly {n b : Nat} {l : List Nat} : b ∈ oldOnly n l ↔ b ∈ l ∧ (b < n ∨ 65536 ≤ b) := by
  induction l with
  | nil => show b ∈ ([] : List Nat) ↔ _; simp
  | cons c t ih =>
    show b ∈ (Bool.rec (motive := fun _ => Nat → List Nat → List Nat) (fun _ r => r) (fun b r => b :: r) (orB (isLt c n) (Nat.ble 65536 c)) c (oldOnly n t)) ↔ _
    cases hq : orB (isLt c n) (Nat.ble 65536 c) with
    | false =>
      show b ∈ oldOnly n t ↔ _
      rw [ih, List.mem_cons]
      rw [orB_eq, Bool.or_eq_false_iff, isLt_eq, decide_eq_false_iff_not] at hq
      have h2 : ¬ 65536 ≤ c := fun h => by have := Nat.ble_eq.mpr h; rw [this] at hq; exact absurd hq.2 (by simp)
      constructor
      · rintro ⟨h, h'⟩; exact ⟨.inr h, h'⟩
      · rintro ⟨rfl | h, h'⟩
        · exact absurd h' (by omega)
        · exact ⟨h, h'⟩
    | true =>
      show b ∈ c :: oldOnly n t ↔ _
      rw [List.mem_cons, ih, List.mem_cons]
      rw [orB_eq, Bool.or_eq_true, isLt_eq, decide_eq_true_iff] at hq
      have h2 : c < n ∨ 65536 ≤ c := hq.imp id fun h => Nat.le_of_ble_eq_true h
      constructor
      · rintro (rfl | ⟨h, h'⟩)
        · exact ⟨.inl rfl, h2⟩
        · exact ⟨.inr h, h'⟩
      · rintro ⟨rfl | h, h'⟩
        · exact .inl rfl
        · exact .inr ⟨h, h'⟩

theorem isNilL_iff {l : List Nat} : isNilL l = true ↔ l = [] := by
  cases l with
  | nil => exact ⟨fun _ => rfl, fun _ => rfl⟩
  | cons => exact ⟨fun h => (by cases h), fun h => (by cases h)⟩
/-- a piece that ran on an empty log, its log put behind the old one. -/
theorem Log.join {s s' : St} (h : Log (clearW s) s') : Log s { h := s'.h, n := s'.n, w := appL (oldOnly s.n s'.w) s.w } where
  n := h.n
  sub := fun b hb => by rw [appL_eq]; exact List.mem_append_right _ hb
  keep := fun b hlt hn hc => h.keep b hlt hn fun c hcm e => by
    by_cases hold : c < s.n ∨ 65536 ≤ c
    · exact hc c (by rw [appL_eq]; exact List.mem_append_left _ (mem_oldOnly.2 ⟨hcm, hold⟩)) e
    · have h1 : c % 65536 = c := Nat.mod_eq_of_lt (by omega)
      rw [h1] at e
      omega
  na := h.na
theorem goOn_ok {i pre : Nat} {cl : Bool} {rd : List Nat} {s s' : St} {ts : List Touch} {k : St → List Touch → Fin} {f : Fin} (hf : f ≠ .bad) (h : goOn i pre cl rd s s' ts k = f) :
    noBig (oldOnly s.n s'.w) = true ∧ apart pre rd (oldOnly s.n s'.w) cl ts = true ∧
      k { h := s'.h, n := s'.n, w := appL (oldOnly s.n s'.w) s.w } (⟨i, cl, oldOnly s.n s'.w, rd, s.n, s'.n⟩ :: ts) = f := by
  unfold goOn at h
  cases hb : andB (noBig (oldOnly s.n s'.w)) (apart pre rd (oldOnly s.n s'.w) cl ts) with
  | false => rw [hb] at h; exact absurd h.symm hf
  | true =>
    rw [hb] at h
    rw [andB_eq, Bool.and_eq_true] at hb
    exact ⟨hb.1, hb.2, h⟩
theorem goVal_ok {i pre : Nat} {rd : List Nat} {s s' : St} {ts : List Touch} {k : St → List Touch → Fin} {f : Fin} (h : goVal i pre rd s s' ts k = f) :
    (rd = [] ∧ s'.w = [] ∧ s.n = s'.n ∧ k s ts = f) ∨ goOn i pre false rd s s' ts k = f := by
  unfold goVal at h
  cases hb : andB (isNilL rd) (andB (isNilL s'.w) (Nat.beq s.n s'.n)) with
  | false => rw [hb] at h; exact .inr h
  | true =>
    rw [hb] at h
    simp only [andB_eq, Bool.and_eq_true] at hb
    exact .inl ⟨isNilL_iff.1 hb.1, isNilL_iff.1 hb.2.1, Nat.beq_eq.mp hb.2.2, h⟩

theorem runDrawn_cons {p : Step} {l : List Step} {ts : List Touch} : runDrawn E call ops (p :: l) a s ts =
    if wantedA ops p.o.guard a.tm = true then stepDrawn call p.i p.pre (aop p.o.op E a.tm (clearW s)) p.o a s ts (runDrawn E call ops l) else runDrawn E call ops l (a.put p.o.dst .top) s ts := by
  show Bool.rec (motive := fun _ => Fin) (runDrawn E call ops l (a.put p.o.dst .top) s ts) (stepDrawn call p.i p.pre (aop p.o.op E a.tm (clearW s)) p.o a s ts (runDrawn E call ops l)) (wantedA ops p.o.guard a.tm) = _
  cases wantedA ops p.o.guard a.tm <;> rfl
theorem stepDrawn_ok {i pre : Nat} {ts : List Touch} {k : AAct → St → List Touch → Fin} (h : stepDrawn call i pre x o a s ts k = .ok e a' s') :
    (∃ v s1 rd, x = .val v s1 rd ∧ goVal i pre rd s s1 ts (k (a.put o.dst v)) = .ok e a' s') ∨
    (∃ s1 rd, x = .skip s1 rd ∧ goOn i pre false rd s s1 ts (k (a.put o.dst .top)) = .ok e a' s') ∨
    (∃ f args v s1, x = .enter f args ∧ call f args (clearW s) = .ret v s1 ∧ goOn i pre true [] s s1 ts (k (a.put o.dst v)) = .ok e a' s') := by
  cases x with
  | val v s1 rd => exact .inl ⟨v, s1, rd, rfl, h⟩
  | skip s1 rd => exact .inr (.inl ⟨s1, rd, rfl, h⟩)
  | enter f args =>
    have h : endFin (call f args (clearW s)) (fun v s' => goOn i pre true [] s s' ts (k (a.put o.dst v))) (fun _ _ => .bad) = .ok e a' s' := h
    cases hc : call f args (clearW s) with
    | bad => rw [hc] at h; cases h
    | ret v s1 => rw [hc] at h; exact .inr (.inr ⟨f, args, v, s1, rfl, hc, h⟩)
    | panicked v s1 => rw [hc] at h; cases h
  | _ => cases h

theorem runDrawn_log (hc : CallLog call) : ∀ (l : List Step) (a : AAct) (s : St) (ts : List Touch) (e : AExit) (a' : AAct) (s' : St), runDrawn E call ops l a s ts = .ok e a' s' → LogU s s' := by
  intro l
  induction l with
  | nil => intro a s ts e a' s' h; cases h; exact .refl s
  | cons p l ih =>
    intro a s ts e a' s' h
    rw [runDrawn_cons] at h
    have go : ∀ {i pre : Nat} {cl : Bool} {rd : List Nat} {s1 : St} {a1 : AAct}, LogU (clearW s) s1 → goOn i pre cl rd s s1 ts (runDrawn E call ops l a1) = .ok e a' s' → LogU s s' := by
      intro i pre cl rd s1 a1 h1 h2
      obtain ⟨_, _, h3⟩ := goOn_ok (by simp) h2
      exact LogU.trans (fun hn => Log.join (h1 hn)) (ih _ _ _ _ _ _ h3)
    split at h
    · have hst := aop_log (o := p.o.op) (E := E) (tm := a.tm) (s := clearW s)
      rcases stepDrawn_ok h with ⟨v, s1, rd, hx, hk⟩ | ⟨s1, rd, hx, hk⟩ | ⟨f, args, v, s1, hx, hcl, hk⟩
      · rw [hx] at hst
        rcases goVal_ok hk with ⟨_, _, _, hk⟩ | hk
        · exact ih _ _ _ _ _ _ hk
        · exact go hst hk
      · rw [hx] at hst; exact go hst hk
      · exact go ((hc f args (clearW s)).1 _ _ hcl) hk
    · exact ih _ _ _ _ _ _ h

/-! code -/
theorem thenK_ok {f : Fin} {k : AAct → St → Fin} (h : thenK f k = .ok e a s) : ∃ e1 a1 s1, f = .ok e1 a1 s1 ∧ ((e1 = .normal ∧ k a1 s1 = .ok e a s) ∨ (e1 ≠ .normal ∧ e = e1 ∧ a = a1 ∧ s = s1)) := by
  cases f with
  | bad => cases h
  | ok e1 a1 s1 =>
    refine ⟨e1, a1, s1, rfl, ?_⟩
    cases e1 with
    | normal => exact .inl ⟨rfl, h⟩
    | _ => cases h; exact .inr ⟨by simp, rfl, rfl, rfl⟩
theorem blockK_exit (id i : Nat) (a1 : AAct) (s1 : St) : blockK id (.ok (.exit i) a1 s1) = if i = id then .ok .normal a1 s1 else .ok (.exit i) a1 s1 := by
  show Bool.rec (motive := fun _ => Nat → AAct → St → Fin) (fun i a s => .ok (.exit i) a s) (fun _ a s => .ok .normal a s) (Nat.beq i id) i a1 s1 = _
  by_cases h : i = id
  · rw [if_pos h, Nat.beq_eq.mpr h]
  · rw [if_neg h]
    have : Nat.beq i id = false := by
      cases hb : Nat.beq i id with
      | false => rfl
      | true => exact absurd (Nat.beq_eq.mp hb) h
    rw [this]
theorem blockK_ok {id : Nat} {f : Fin} (h : blockK id f = .ok e a s) : ∃ e1, f = .ok e1 a s ∧ ((e1 = .normal ∧ e = .normal) ∨ (e1 = .exit id ∧ e = .normal) ∨ (e1 = e ∧ e1 ≠ .normal ∧ e1 ≠ .exit id)) := by
  cases f with
  | bad => cases h
  | ok e1 a1 s1 =>
    cases e1 with
    | normal => cases h; exact ⟨_, rfl, .inl ⟨rfl, rfl⟩⟩
    | exit i =>
      rw [blockK_exit] at h
      by_cases hi : i = id
      · rw [if_pos hi] at h
        subst hi
        cases h
        exact ⟨_, rfl, .inr (.inl ⟨rfl, rfl⟩)⟩
      · rw [if_neg hi] at h
        cases h
        exact ⟨_, rfl, .inr (.inr ⟨rfl, by simp, by intro hne; cases hne; exact hi rfl⟩)⟩
    | _ => cases h; exact ⟨_, rfl, .inr (.inr ⟨rfl, by simp, by simp⟩)⟩
theorem scopeK_ok {f : Fin} (h : scopeK f = .ok e a s) : f = .ok e a s ∧ ∀ l, e ≠ .goto l := by
  cases f with
  | bad => cases h
  | ok e1 a1 s1 => cases e1 <;> first | (cases h; exact ⟨rfl, by simp⟩) | cases h
theorem condK_ok {c : AV} {x y : Unit → Fin} (h : condK c x y = .ok e a s) : ∃ b, c = .bool b ∧ (if b = true then x () else y ()) = .ok e a s := by
  unfold condK vCond at h
  cases c with
  | bool b => cases b <;> exact ⟨_, rfl, h⟩
  | _ => cases h
theorem drawnK_ok {id : Nat} (h : drawnK E call fid id ops a s = .ok e a' s') : ∃ ri, infoOf E fid id = some ri ∧ runDrawn E call ops (steps ops ri.ord ri.pre) a s [] = .ok e a' s' := by
  unfold drawnK at h
  cases hi : infoOf E fid id with
  | none => rw [hi] at h; cases h
  | some ri => rw [hi] at h; exact ⟨ri, rfl, h⟩

theorem exec_log (hc : CallLog call) : ∀ (n : Nat) (c : Code) (a : AAct) (s : St) (e : AExit) (a' : AAct) (s' : St), exec E call fid n c a s = .ok e a' s' → LogU s s' := by
  intro n
  induction n with
  | zero => intro c a s e a' s' h; cases h
  | succ n ih =>
    intro c a s e a' s' h
    have then_ : ∀ {f : Fin} {k : AAct → St → Fin}, (∀ e1 a1 s1, f = .ok e1 a1 s1 → LogU s s1) → (∀ a1 s1 e a' s', k a1 s1 = .ok e a' s' → LogU s1 s') → thenK f k = .ok e a' s' → LogU s s' := by
      intro f k h1 h2 h
      obtain ⟨e1, a1, s1, hf, ⟨_, hk⟩ | ⟨_, _, _, rfl⟩⟩ := thenK_ok h
      · exact (h1 _ _ _ hf).trans (h2 _ _ _ _ _ hk)
      · exact h1 _ _ _ hf
    cases c with
    | skip => cases h; exact .refl s
    | region id rops draw =>
      have h : regionK E call fid id rops.toList draw a s = .ok e a' s' := h
      cases draw with
      | false => exact runOps_log hc _ _ _ _ _ _ (show runOps E call rops.toList rops.toList a s = _ from h)
      | true =>
        obtain ⟨ri, _, hr⟩ := drawnK_ok (show drawnK E call fid id rops.toList a s = _ from h)
        exact runDrawn_log hc _ _ _ _ _ _ _ hr
    | seq x y => exact then_ (fun e1 a1 s1 => ih x a s e1 a1 s1) (fun a1 s1 e a' s' => ih y a1 s1 e a' s') (show thenK (exec E call fid n x a s) (exec E call fid n y) = _ from h)
    | cond c x y =>
      obtain ⟨b, _, hb⟩ := condK_ok (show condK (evalO c a.tm) (fun _ => exec E call fid n x a s) (fun _ => exec E call fid n y a s) = _ from h)
      cases b with
      | true => exact ih _ _ _ _ _ _ hb
      | false => exact ih _ _ _ _ _ _ hb
    | block id x =>
      obtain ⟨e1, h1, _⟩ := blockK_ok (show blockK id (exec E call fid n x a s) = _ from h)
      exact ih _ _ _ _ _ _ h1
    | loop x => exact then_ (fun e1 a1 s1 => ih x a s e1 a1 s1) (fun a1 s1 e a' s' => ih (.loop x) a1 s1 e a' s') (show thenK (exec E call fid n x a s) (exec E call fid n (.loop x)) = _ from h)
    | exit id => cases h; exact .refl s
    | scope x => exact ih _ _ _ _ _ _ (scopeK_ok (show scopeK (exec E call fid n x a s) = _ from h)).1
    | label l => cases h; exact .refl s
    | goto l => cases h; exact .refl s
    | ret => cases h; exact .refl s
    | _ => cases h
end
end Go.Dee
namespace Go.Dee
noncomputable section
open Go

def GOK (ρ : Ren) (g : Nat) : Prop := ∀ b, b < g → ∃ p, ρ b = some p ∧ p.block = b ∧ p.base = 0
theorem GOK.mono {ρ ρ' : Ren} {g : Nat} (h : GOK ρ g) (hl : ρ.le ρ') : GOK ρ' g := fun b hb => let ⟨p, hp, r⟩ := h b hb; ⟨p, hl _ _ hp, r⟩

def allB {α : Type} (f : α → Bool) (l : List α) : Bool := List.rec (motive := fun _ => Bool) true (fun x _ ih => andB (f x) ih) l
theorem allB_iff {α : Type} {f : α → Bool} {l : List α} : allB f l = true ↔ ∀ x ∈ l, f x = true := by
  induction l with
  | nil => exact ⟨fun _ x hx => (by cases hx), fun _ => rfl⟩
  | cons y l ih =>
    show andB (f y) (allB f l) = true ↔ _
    rw [andB_eq, Bool.and_eq_true, ih]
    simp

/-! static checks on operations -/
def opndOK (nt g : Nat) (x : Operand) : Bool := Operand.rec (motive := fun _ => Bool) (fun t => isLt t nt) (fun _ => true) (fun b => isLt b g) (fun _ => true) x
def dstOK (nt : Nat) (d : Option Tmp) : Bool := Option.rec (motive := fun _ => Bool) true (fun d => isLt d nt) d
def operOK (nt g : Nat) (o : Oper) : Bool := andB (dstOK nt o.dst) (allB (opndOK nt g) o.op.operands.toList)

/-! deferred calls -/
def DRel (ρ : Ren) (f : AV) (args : List AV) (d : Deferred) : Prop :=
  ∃ f' args', d = { target := f', args := args' } ∧ (∀ g a c, f = .fn g a c → ∃ x y : Array Value, ∃ as : Array Value, f' = .fn g y ∧ args' = x ++ as ∧ Vs ρ a x.toList ∧ Vs ρ c y.toList ∧ Vs ρ args as.toList)
def DsRel (ρ : Ren) : List (AV × List AV) → List Deferred → Prop
  | [], l => l = []
  | p :: ps, l => ∃ d l', l = d :: l' ∧ DRel ρ p.1 p.2 d ∧ DsRel ρ ps l'
theorem DRel.mono {ρ ρ' : Ren} (h : ρ.le ρ') {f : AV} {args : List AV} {d : Deferred} (hd : DRel ρ f args d) : DRel ρ' f args d := by
  obtain ⟨f', args', e, hr⟩ := hd
  refine ⟨f', args', e, fun g a c hf => ?_⟩
  obtain ⟨x, y, as, h1, h2, h3, h4, h5⟩ := hr g a c hf
  exact ⟨x, y, as, h1, h2, h3.mono h, h4.mono h, h5.mono h⟩
theorem DsRel.mono {ρ ρ' : Ren} (h : ρ.le ρ') {l : List (AV × List AV)} {ds : List Deferred} (hd : DsRel ρ l ds) : DsRel ρ' l ds := by
  induction l generalizing ds with
  | nil => exact hd
  | cons p l ih =>
    obtain ⟨d, l', e, h1, h2⟩ := hd
    exact ⟨d, l', e, h1.mono h, ih h2⟩

/-! temporaries -/
structure AOK (ρ : Ren) (nt : Nat) (a : AAct) (a' : Act) : Prop where
  small : nt ≤ 256
  size : nt ≤ a'.tmps.size
  tm : ∀ i, i < 256 → V ρ (tget a.tm i) (a'.tmps.getD i undef)
  ds : DsRel ρ a.ds a'.defers
theorem AOK.mono {ρ ρ' : Ren} {nt : Nat} {a : AAct} {a' : Act} (h : ρ.le ρ') (ha : AOK ρ nt a a') : AOK ρ' nt a a' :=
  ⟨ha.small, ha.size, fun i hi => (ha.tm i hi).mono h, ha.ds.mono h⟩

theorem put_size (a' : Act) (d : Option Tmp) (v : Value) : (a'.put d v).tmps.size = a'.tmps.size := by
  cases d with
  | none => rfl
  | some d => simp [Act.put]
theorem put_defs (a' : Act) (d : Option Tmp) (v : Value) : (a'.put d v).defers = a'.defers := by cases d <;> rfl
theorem put_get {a' : Act} {d : Option Tmp} {v : Value} {i : Nat} (hd : ∀ t, d = some t → t < a'.tmps.size) : (a'.put d v).tmps.getD i undef = if d = some i then v else a'.tmps.getD i undef := by
  cases d with
  | none => simp [Act.put]
  | some t =>
    have := hd t rfl
    by_cases h : t = i
    · subst h
      simp [Act.put, this]
    · simp [Act.put, h]
theorem aput_tm (a : AAct) (d : Option Tmp) (v : AV) (hd : ∀ t, d = some t → t < 256) {i : Nat} (hi : i < 256) : tget (a.put d v).tm i = if d = some i then v else tget a.tm i := by
  cases d with
  | none => simp [AAct.put]
  | some t =>
    show tget (tset a.tm t v) i = _
    rw [tget_tset _ _ _ _ (hd t rfl) hi]
    by_cases h : t = i <;> simp [h]
theorem aput_ds (a : AAct) (d : Option Tmp) (v : AV) : (a.put d v).ds = a.ds := by cases d <;> rfl
theorem dstOK_iff {nt : Nat} {d : Option Tmp} (h : dstOK nt d = true) : ∀ t, d = some t → t < nt := by
  intro t e
  subst e
  exact isLt_iff.1 h
theorem AOK.put {ρ : Ren} {nt : Nat} {a : AAct} {a' : Act} (ha : AOK ρ nt a a') {d : Option Tmp} (hd : dstOK nt d = true) {v : AV} {v' : Value} (hv : V ρ v v') : AOK ρ nt (a.put d v) (a'.put d v') := by
  have h1 := dstOK_iff hd
  refine ⟨ha.small, by rw [put_size]; exact ha.size, fun i hi => ?_, by rw [aput_ds, put_defs]; exact ha.ds⟩
  rw [aput_tm a d v (fun t e => Nat.lt_of_lt_of_le (h1 t e) ha.small) hi, put_get fun t e => Nat.lt_of_lt_of_le (h1 t e) ha.size]
  split
  · exact hv
  · exact ha.tm i hi
theorem V.undef {ρ : Ren} : V ρ .top undef := by
  simp only [V, Go.undef]
  intro b hb
  cases hb

theorem evalO_ok {ρ : Ren} {nt g : Nat} {x : Operand} {tm : Tmps} {a' : Act} (hx : opndOK nt g x = true) (hg : GOK ρ g) (ht : ∀ t, x = .tmp t → V ρ (tget tm t) (a'.tmps.getD t undef)) :
    V ρ (evalO x tm) (a'.eval x) := by
  cases x with
  | tmp t => exact ht t rfl
  | const v => exact ofConst_ok v
  | global b =>
    obtain ⟨p, hp, h1, h2⟩ := hg b (isLt_iff.1 hx)
    show V ρ (.ptr b 0) (.pointer (some ⟨b, 0, none⟩))
    simp only [V]
    exact ⟨p, hp, by rw [h1, h2]⟩
  | func f =>
    show V ρ (.fn (.func f) [] []) (.func (.func f) #[] #[])
    simp only [V]
    exact ⟨#[], #[], rfl, Vs.nil', Vs.nil'⟩

def boolOf : Value → Option Bool
  | .bool b => some b
  | _ => none
theorem vIsBool_eq {ρ : Ren} {x : AV} {v : Value} (h : V ρ x v) (want : Bool) : vIsBool x want = (boolOf v == some want) := by
  cases x with
  | bool b =>
    have := h.bool
    subst this
    cases b <;> cases want <;> rfl
  | top =>
    have h : ∀ b, v ≠ .bool b := by simpa only [V] using h
    show false = _
    cases v <;> first | rfl | exact absurd rfl (h _)
  | int => have := h.int; subst this; rfl
  | str => obtain ⟨_, rfl, _⟩ := h.str; rfl
  | ptr => obtain ⟨_, _, rfl⟩ := h.ptr; rfl
  | sl b o l c => obtain ⟨_, _, rfl⟩ := h.slSome; rfl
  | map => simp only [V] at h; obtain ⟨_, _, rfl⟩ := h; rfl
  | fn => obtain ⟨_, _, rfl, _⟩ := h.fn; rfl
  | iface => obtain ⟨_, rfl, _⟩ := h.iface; rfl
  | agg => simp only [V] at h; obtain ⟨_, rfl, _⟩ := h; rfl
  | tup => simp only [V] at h; obtain ⟨_, rfl, _⟩ := h; rfl
  | _ => simp only [V] at h; subst h; rfl

theorem dropO_head {l : List Oper} {j : Nat} : (dropO j l).head? = l[j]? := by
  induction l generalizing j with
  | nil => cases j <;> rfl
  | cons o l ih => cases j with
    | zero => rfl
    | succ j => exact ih
theorem wanted_ok {ρ : Ren} {nt : Nat} {ops : Array Oper} {o : Oper} {tm : Tmps} {a' : Act} (hsz : nt ≤ a'.tmps.size) (hops : ∀ o ∈ ops.toList, dstOK nt o.dst = true)
    (ht : ∀ t ∈ o.looksAt ops, V ρ (tget tm t) (a'.tmps.getD t undef)) : Region.wanted o (yielded ops a'.tmps) = wantedA ops.toList o.guard tm := by
  unfold Region.wanted
  cases hg : o.guard with
  | none => rfl
  | some p =>
    obtain ⟨j, want⟩ := p
    show (yielded ops a'.tmps j == some want) = headIs (dropO j ops.toList) tm want
    have hh := dropO_head (l := ops.toList) (j := j)
    unfold yielded
    rw [Array.getElem?_toList] at hh
    cases hd : dropO j ops.toList with
    | nil => rw [hd] at hh; rw [← hh]; rfl
    | cons q r =>
      rw [hd] at hh
      have hh : ops[j]? = some q := hh.symm
      rw [hh]
      show _ = dstIs q tm want
      unfold dstIs
      cases hq : q.dst with
      | none => simp [hq]
      | some d =>
        have hmem : q ∈ ops.toList := List.mem_of_getElem? (by rw [Array.getElem?_toList]; exact hh)
        have hlt := Nat.lt_of_lt_of_le (dstOK_iff (hops q hmem) d hq) hsz
        have hv := ht d (by simp [Oper.looksAt, hg, hh, hq])
        show _ = vIsBool (tget tm d) want
        rw [vIsBool_eq hv]
        have e : a'.tmps.getD d undef = a'.tmps[d] := by simp [Array.getD, hlt]
        rw [e]
        simp only [Option.bind_some, hq, Array.getElem?_eq_getElem hlt]
        generalize a'.tmps[d] = v
        cases v <;> rfl

/-! what a call comes to -/
abbrev Any (_ : Nat) : Prop := True
def EndOK (P : Program) (tt : Trie TI) (g : Nat) (f : FuncId) (args : List AV) (s : St) : AEnd → Prop
  | .bad => True
  | .ret v s' => Enters P f ∧ ∀ ρ w (args' : Array Value), GOK ρ g → NA s → SRon tt Any ρ s.h w → Vs ρ args args'.toList → freeIn ρ s.n s'.n → s'.n ≤ 65536 →
      Calls P f args' w fun
        | .returned v', w' => ∃ ρ', Adv tt Any ρ s w ρ' s' w' ∧ V ρ' v v'
        | _, _ => False
  | .panicked v s' => Enters P f ∧ ∀ ρ w (args' : Array Value), GOK ρ g → NA s → SRon tt Any ρ s.h w → Vs ρ args args'.toList → freeIn ρ s.n s'.n → s'.n ≤ 65536 →
      Calls P f args' w fun
        | .panicked ch, w' => ∃ ρ' v', ch = [{ v := v', recovered := false }] ∧ Adv tt Any ρ s w ρ' s' w' ∧ V ρ' v v'
        | _, _ => False
def CallOK (P : Program) (tt : Trie TI) (g : Nat) (call : CallF) : Prop := ∀ f args s, EndOK P tt g f args s (call f args s)
theorem CallOK.enters {P : Program} {tt : Trie TI} {g : Nat} {call : CallF} (h : CallOK P tt g call) {f : FuncId} {args : List AV} {s : St} (hb : call f args s ≠ .bad) : Enters P f := by
  have := h f args s
  cases hc : call f args s with
  | bad => exact absurd hc hb
  | ret v s' => rw [hc] at this; exact this.1
  | panicked v s' => rw [hc] at this; exact this.1

def exitRel (ρ : Ren) : AExit → Exit → Prop
  | .normal, .normal => True
  | .exit i, .exit j => i = j
  | .goto i, .goto j => i = j
  | .ret, .ret => True
  | .panic v, .panic ch => ∃ v', ch = [{ v := v', recovered := false }] ∧ V ρ v v'
  | _, _ => False
theorem exitRel.mono {ρ ρ' : Ren} (h : ρ.le ρ') {e : AExit} {x : Exit} (he : exitRel ρ e x) : exitRel ρ' e x := by
  cases e <;> cases x <;> first | exact he | (obtain ⟨v', h1, h2⟩ := he; exact ⟨v', h1, h2.mono h⟩)
def Post (tt : Trie TI) (nt : Nat) (ρ : Ren) (s : St) (w : World) (e : AExit) (a : AAct) (s1 : St) (x : Exit) (a' : Act) (w' : World) : Prop :=
  ∃ ρ', Adv tt Any ρ s w ρ' s1 w' ∧ AOK ρ' nt a a' ∧ exitRel ρ' e x

section
variable {tt : Trie TI} {ρ ρ1 : Ren} {s s1 s2 : St} {w w1 : World}
theorem Adv.srAny (h : Adv tt Any ρ s w ρ1 s1 w1) : SRon tt Any ρ1 s1.h w1 := h.sr.sub fun _ _ => .inl trivial
theorem Adv.free {F : Nat → Prop} (h : Adv tt F ρ s w ρ1 s1 w1) {N : Nat} (hf : freeIn ρ s.n N) : freeIn ρ1 s1.n N := by
  intro b hb hN
  cases hr : ρ1 b with
  | none => rfl
  | some p =>
    rcases h.fresh b p hr with h1 | h1
    · rw [hf b (Nat.le_trans h.n hb) hN] at h1; cases h1
    · omega
theorem Adv.then {ρ2 : Ren} {w2 : World} (h : Adv tt Any ρ s w ρ1 s1 w1) (h' : Adv tt Any ρ1 s1 w1 ρ2 s2 w2) : Adv tt Any ρ s w ρ2 s2 w2 := h.trans (fun _ _ => .inl trivial) h'
theorem freeIn.less {lo hi hi' : Nat} (h : freeIn ρ lo hi') (hh : hi ≤ hi') : freeIn ρ lo hi := fun b h1 h2 => h b h1 (Nat.lt_of_lt_of_le h2 hh)
end

/-! one operation -/
section
variable {P : Program} {E : Env} {call : CallF} {g nt : Nat} {ops : Array Oper} {o : Oper} {tm : Tmps} {s : St} {ρ : Ren} {w : World} {a' : Act} {K : Act → World → Prop} {Q : Exit → Act → World → Prop}

theorem opnds_ok (ho : operOK nt g o = true) (hg : GOK ρ g) (ht : ∀ t ∈ o.looksAt ops, V ρ (tget tm t) (a'.tmps.getD t undef)) :
    ∀ x ∈ o.op.operands.toList, V ρ (evalO x tm) (a'.eval x) := by
  unfold operOK at ho
  rw [andB_eq, Bool.and_eq_true] at ho
  intro x hx
  refine evalO_ok (allB_iff.1 ho.2 x hx) hg fun t e => ht t ?_
  subst e
  exact List.mem_append_left _ (List.mem_filterMap.2 ⟨.tmp t, hx, rfl⟩)


theorem step_val (ht : TTok P E.tt) (hX : ExtOK P E.ext) (hσ : ∀ x ∈ o.op.operands.toList, V ρ (evalO x tm) (a'.eval x)) {v : AV} {s1 : St} {rd : List Nat} (hx : aop o.op E tm s = .val v s1 rd) (hs : SRon E.tt (· ∈ rd) ρ s.h w) (hf : freeIn ρ s.n s1.n) (hn : s1.n ≤ 65536)
    (hK : ∀ v' w' ρ', Adv E.tt (· ∈ rd) ρ s w ρ' s1 w' → V ρ' v v' → K (a'.put o.dst v') w') : o.wp P a' w K Q := by
  have hgood := aop_good (P := P) (E := E) (ρ := ρ) (w := w) (s := s) ht hX hσ (fun f args e => by rw [hx] at e; cases e)
  rw [hx] at hgood
  obtain ⟨v', w', ρ', hr, hv, hadv⟩ := hgood hs hf hn
  unfold Oper.wp
  rw [hr, Oper.upon_value]
  exact hK _ _ _ hadv hv
theorem step_skip' (ht : TTok P E.tt) (hX : ExtOK P E.ext) (hσ : ∀ x ∈ o.op.operands.toList, V ρ (evalO x tm) (a'.eval x)) {s1 : St} {rd : List Nat} (hx : aop o.op E tm s = .skip s1 rd) (hs : SRon E.tt (· ∈ rd) ρ s.h w) (hf : freeIn ρ s.n s1.n) (hn : s1.n ≤ 65536)
    (hK : ∀ w' ρ', Adv E.tt (· ∈ rd) ρ s w ρ' s1 w' → K (a'.put o.dst undef) w') : o.wp P a' w K Q := by
  have hgood := aop_good (P := P) (E := E) (ρ := ρ) (w := w) (s := s) ht hX hσ (fun f args e => by rw [hx] at e; cases e)
  rw [hx] at hgood
  obtain ⟨w', ρ', hr, hadv⟩ := hgood hs hf hn
  unfold Oper.wp
  rw [hr, Oper.upon_skip]
  exact hK _ _ hadv
theorem step_enter (ht : TTok P E.tt) (hX : ExtOK P E.ext) (hσ : ∀ x ∈ o.op.operands.toList, V ρ (evalO x tm) (a'.eval x)) (hc : CallOK P E.tt g call) {f : FuncId} {args : List AV} {v : AV} {s0 s1 : St} (hx : aop o.op E tm s = .enter f args) (hcall : call f args s0 = .ret v s1) (hg : GOK ρ g) (hna : NA s0)
    (hs : SRon E.tt Any ρ s0.h w) (hf : freeIn ρ s0.n s1.n) (hn : s1.n ≤ 65536)
    (hK : ∀ v' w' ρ', Adv E.tt Any ρ s0 w ρ' s1 w' → V ρ' v v' → K (a'.put o.dst v') w') : o.wp P a' w K Q := by
  have hend := hc f args s0
  have hgood := aop_good (P := P) (E := E) (ρ := ρ) (w := w) (s := s) ht hX hσ (fun f' args' e => by rw [hx] at e; cases e; exact hc.enters (by rw [hcall]; simp))
  rw [hx] at hgood
  rw [hcall] at hend
  obtain ⟨args', hr, hargs⟩ := hgood
  unfold Oper.wp
  rw [hr, Oper.upon_enter]
  refine Calls.mono (hend.2 ρ w args' hg hna hs hargs hf hn) fun e w' he => ?_
  cases e with
  | returned v' => obtain ⟨ρ', h1, h2⟩ := he; exact hK _ _ _ h1 h2
  | _ => exact he.elim
theorem step_enterPanic (ht : TTok P E.tt) (hX : ExtOK P E.ext) (hσ : ∀ x ∈ o.op.operands.toList, V ρ (evalO x tm) (a'.eval x)) (hc : CallOK P E.tt g call) {f : FuncId} {args : List AV} {v : AV} {s0 s1 : St} (hx : aop o.op E tm s = .enter f args) (hcall : call f args s0 = .panicked v s1) (hg : GOK ρ g) (hna : NA s0)
    (hs : SRon E.tt Any ρ s0.h w) (hf : freeIn ρ s0.n s1.n) (hn : s1.n ≤ 65536)
    (hQ : ∀ v' w' ρ', Adv E.tt Any ρ s0 w ρ' s1 w' → V ρ' v v' → Q (.panic [{ v := v', recovered := false }]) a' w') : o.wp P a' w K Q := by
  have hend := hc f args s0
  have hgood := aop_good (P := P) (E := E) (ρ := ρ) (w := w) (s := s) ht hX hσ (fun f' args' e => by rw [hx] at e; cases e; exact hc.enters (by rw [hcall]; simp))
  rw [hx] at hgood
  rw [hcall] at hend
  obtain ⟨args', hr, hargs⟩ := hgood
  unfold Oper.wp
  rw [hr, Oper.upon_enter]
  refine Calls.mono (hend.2 ρ w args' hg hna hs hargs hf hn) fun e w' he => ?_
  cases e with
  | panicked ch => obtain ⟨ρ', v', rfl, h1, h2⟩ := he; exact hQ _ _ _ h1 h2
  | _ => exact he.elim
theorem step_defer' (ht : TTok P E.tt) (hX : ExtOK P E.ext) (hσ : ∀ x ∈ o.op.operands.toList, V ρ (evalO x tm) (a'.eval x)) {f : AV} {args : List AV} (hx : aop o.op E tm s = .defer f args) (hK : ∀ d, DRel ρ f args d → K ({ a' with defers := d :: a'.defers }.put o.dst undef) w) : o.wp P a' w K Q := by
  have hgood := aop_good (P := P) (E := E) (ρ := ρ) (w := w) (s := s) ht hX hσ (fun f args e => by rw [hx] at e; cases e)
  rw [hx] at hgood
  obtain ⟨d, hr, hd⟩ := hgood
  unfold Oper.wp
  rw [hr, Oper.upon_defer]
  exact hK d hd
theorem step_panic (ht : TTok P E.tt) (hX : ExtOK P E.ext) (hσ : ∀ x ∈ o.op.operands.toList, V ρ (evalO x tm) (a'.eval x)) {v : AV} {s1 : St} (hx : aop o.op E tm s = .panic v s1) (hQ : ∀ v', V ρ v v' → Q (.panic [{ v := v', recovered := false }]) a' w) : o.wp P a' w K Q ∧ s1 = s := by
  have hgood := aop_good (P := P) (E := E) (ρ := ρ) (w := w) (s := s) ht hX hσ (fun f args e => by rw [hx] at e; cases e)
  rw [hx] at hgood
  obtain ⟨rfl, v', hr, hv⟩ := hgood
  refine ⟨?_, rfl⟩
  unfold Oper.wp
  rw [hr, Oper.upon_panic]
  exact hQ v' hv
end

/-! a region that doesn't draw -/
section
variable {P : Program} {E : Env} {call : CallF} {g nt : Nat}

theorem looks_lt {ops : Array Oper} {o : Oper} (ho : operOK nt g o = true) (hops : ∀ o ∈ ops.toList, dstOK nt o.dst = true) : ∀ t ∈ o.looksAt ops, t < nt := by
  intro t ht
  unfold operOK at ho
  rw [andB_eq, Bool.and_eq_true] at ho
  unfold Oper.looksAt at ht
  rcases List.mem_append.1 ht with h | h
  · obtain ⟨x, hx, e⟩ := List.mem_filterMap.1 h
    have h1 := allB_iff.1 ho.2 x hx
    cases x with
    | tmp u => cases e; exact isLt_iff.1 h1
    | _ => cases e
  · cases hg : o.guard with
    | none => rw [hg] at h; cases h
    | some p =>
      obtain ⟨j, want⟩ := p
      rw [hg] at h
      dsimp only at h
      cases hj : ops[j]? with
      | none => rw [hj] at h; cases h
      | some q =>
        rw [hj] at h
        have hmem : q ∈ ops.toList := List.mem_of_getElem? (by rw [Array.getElem?_toList]; exact hj)
        cases hq : q.dst with
        | none => simp [hq] at h
        | some d =>
          simp [hq] at h
          subst h
          exact dstOK_iff (hops q hmem) _ hq
theorem dsts_of {ops : Array Oper} (hops : ∀ o ∈ ops.toList, operOK nt g o = true) : ∀ o ∈ ops.toList, dstOK nt o.dst = true := fun o ho => by
  have := hops o ho
  unfold operOK at this
  rw [andB_eq, Bool.and_eq_true] at this
  exact this.1

theorem runOps_ok (ht : TTok P E.tt) (hX : ExtOK P E.ext) (hc : CallOK P E.tt g call) (hl : CallLog call) (ops : Array Oper) (hops : ∀ o ∈ ops.toList, operOK nt g o = true) :
    ∀ (l pre : List Oper), ops.toList = pre ++ l → ∀ (a : AAct) (s : St) (e : AExit) (a1 : AAct) (s1 : St), runOps E call ops.toList l a s = .ok e a1 s1 → s1.n ≤ 65536 → NA s →
      ∀ (ρ : Ren) (w : World) (a' : Act), GOK ρ g → SRon E.tt Any ρ s.h w → AOK ρ nt a a' → freeIn ρ s.n s1.n →
      ∀ (Q : Exit → Act → World → Prop), (∀ x b w', Post E.tt nt ρ s w e a1 s1 x b w' → Q x b w') → wpOps P ops Q (List.range' pre.length l.length) a' w := by
  have hdst := dsts_of hops
  intro l
  induction l with
  | nil =>
    intro pre hpre a s e a1 s1 h hn hna ρ w a' hg hs ha hf Q hQ
    cases h
    exact hQ _ _ _ ⟨ρ, .refl hs, ha, trivial⟩
  | cons o l ih =>
    intro pre hpre a s e a1 s1 h hn hna ρ w a' hg hs ha hf Q hQ
    have ho : ops[pre.length]? = some o := by rw [← Array.getElem?_toList, hpre]; simp
    have hmem : o ∈ ops.toList := by rw [hpre]; simp
    have hpre' : ops.toList = (pre ++ [o]) ++ l := by rw [hpre]; simp
    have hlen : (pre ++ [o]).length = pre.length + 1 := by simp
    have htm : ∀ t ∈ o.looksAt ops, V ρ (tget a.tm t) (a'.tmps.getD t undef) := fun t ht => ha.tm t (Nat.lt_of_lt_of_le (looks_lt (hops o hmem) hdst t ht) ha.small)
    have hw := wanted_ok (o := o) (tm := a.tm) ha.size hdst htm
    have hσ := opnds_ok (ops := ops) (tm := a.tm) (a' := a') (hops o hmem) hg htm
    have hd : dstOK nt o.dst = true := hdst o hmem
    show wpOps P ops Q (pre.length :: List.range' (pre.length + 1) l.length) a' w
    unfold wpOps
    rw [ho]
    dsimp only
    rw [hw]
    rw [runOps_cons] at h
    -- what is left, from where the step leads
    have rest : ∀ {a2 : AAct} {s2 : St}, runOps E call ops.toList l a2 s2 = .ok e a1 s1 → LogU s s2 → ∀ {ρ2 : Ren} {w2 : World} {a2' : Act}, Adv E.tt Any ρ s w ρ2 s2 w2 → AOK ρ2 nt a2 a2' →
        wpOps P ops Q (List.range' (pre.length + 1) l.length) a2' w2 := by
      intro a2 s2 hr hlog ρ2 w2 a2' hadv ha2
      have hlog2 := runOps_log hl _ _ _ _ _ _ hr hn
      rw [← hlen]
      refine ih (pre ++ [o]) hpre' a2 s2 e a1 s1 hr hn ((hlog (Nat.le_trans hlog2.n hn)).na hna) ρ2 w2 a2' (hg.mono hadv.le) hadv.srAny ha2 (hadv.free hf) Q ?_
      rintro x b w' ⟨ρ3, h1, h2, h3⟩
      exact hQ _ _ _ ⟨ρ3, hadv.then h1, h2, h3⟩
    have le_of : ∀ {a2 : AAct} {s2 : St}, runOps E call ops.toList l a2 s2 = .ok e a1 s1 → s2.n ≤ s1.n := fun hr => (runOps_log hl _ _ _ _ _ _ hr hn).n
    split
    · rename_i hwant
      rw [if_pos hwant] at h
      left
      have hst := aop_log (o := o.op) (E := E) (tm := a.tm) (s := s)
      rcases stepOp_ok h with ⟨v, s2, rd, hx, hk⟩ | ⟨s2, rd, hx, hk⟩ | ⟨f, args, v, s2, hx, hcl, hk⟩ | ⟨f, args, v, s2, hx, hcl, rfl, rfl, rfl⟩ | ⟨f, args, hx, hk⟩ | ⟨v, s2, hx, rfl, rfl, rfl⟩
      · rw [hx] at hst
        have h2 := le_of hk
        refine step_val ht hX hσ hx (hs.sub fun _ _ => trivial) (hf.less h2) (Nat.le_trans h2 hn) fun v' w' ρ' hadv hv => ?_
        exact rest hk hst (hadv.more hs fun _ _ => trivial) ((ha.mono hadv.le).put hd hv)
      · rw [hx] at hst
        have h2 := le_of hk
        refine step_skip' ht hX hσ hx (hs.sub fun _ _ => trivial) (hf.less h2) (Nat.le_trans h2 hn) fun w' ρ' hadv => ?_
        exact rest hk hst (hadv.more hs fun _ _ => trivial) ((ha.mono hadv.le).put hd V.undef)
      · have h2 := le_of hk
        refine step_enter ht hX hσ hc hx hcl hg hna hs (hf.less h2) (Nat.le_trans h2 hn) fun v' w' ρ' hadv hv => ?_
        exact rest hk ((hl f args s).1 _ _ hcl) hadv ((ha.mono hadv.le).put hd hv)
      · refine step_enterPanic ht hX hσ hc hx hcl hg hna hs hf hn fun v' w' ρ' hadv hv => ?_
        exact hQ _ _ _ ⟨ρ', hadv, ha.mono hadv.le, v', rfl, hv⟩
      · refine step_defer' ht hX hσ hx fun d hdr => ?_
        refine rest hk (.refl s) (.refl hs) (AOK.put ?_ hd V.undef)
        exact ⟨ha.small, ha.size, ha.tm, d, _, rfl, hdr, ha.ds⟩
      · have hstp := step_panic (K := wpOps P ops Q (List.range' (pre.length + 1) l.length)) (Q := Q) ht hX hσ hx fun v' hv => hQ _ _ _ ⟨ρ, by
          rw [hx] at hst
          have : s1 = s := hst
          subst this
          exact .refl hs, ha, v', rfl, hv⟩
        exact hstp.1
    · rename_i hwant
      rw [if_neg hwant] at h
      exact rest h (.refl s) (.refl hs) (ha.put hd V.undef)
end
end
end Go.Dee
