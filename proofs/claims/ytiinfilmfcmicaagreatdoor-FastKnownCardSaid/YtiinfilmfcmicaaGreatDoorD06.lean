/- What an operation logs, one by one. Part of the proof that FastKnown returns true on every schedule, its listed variables laid as the text lays them. -/
import Derived.Test.YtiinfilmfcmicaaGreatDoorD05
namespace Go.Dee
open Go

section
variable {s : St}

theorem stp_Pick {c a b : AV} : Stp s (opPick s c a b) := by
  unfold opPick
  repeat' first
    | exact stp_same
    | exact stp_new
    | exact fun h => .setNew s _ _ h
    | exact fun _ => .set s _ none (.inr rfl)
    | exact fun _ => .setL (by assumption)
    | exact (rfl : _ = _)
    | trivial
    | refine stp_chk fun _ => ?_
    | refine stp_iff (fun _ => ?_) (fun _ => ?_)
    | refine stp_oTI fun _ _ => ?_
    | refine stp_oCells fun _ _ => ?_
    | refine stp_oAV fun _ _ => ?_
    | refine stp_oSt fun _ hw => ?_
    | exact fun _ => .write (by assumption)
    | refine stp_oBlk fun _ _ => ?_
    | refine stp_oNat fun _ _ => ?_
    | refine stp_oBytes fun _ _ => ?_
    | refine stp_oKind fun _ _ => ?_
    | refine stp_oElem fun _ _ => ?_
    | refine stp_oPair fun _ _ => ?_
    | refine stp_oFound fun _ _ => ?_
    | refine stp_oDec fun _ _ => ?_
    | refine stp_oMeth fun _ _ => ?_
    | refine stp_oSrc fun _ _ => ?_
    | refine stp_oVal fun _ _ => ?_
    | refine stp_oEl (fun _ _ => ?_) (fun _ => ?_)
    | refine stp_vPtr fun _ _ _ => ?_
    | refine stp_vInt fun _ _ _ => ?_
    | refine stp_vNat fun _ _ _ => ?_
    | refine stp_vStr fun _ _ => ?_
    | refine stp_vAgg fun _ _ => ?_
    | refine stp_vTup fun _ _ => ?_
    | refine stp_vMap fun _ _ => ?_
    | refine stp_vBool fun _ _ => ?_
    | refine stp_vIface fun _ _ _ => ?_
    | refine stp_vFn fun _ _ _ _ => ?_
    | refine stp_vSlE (fun _ => ?_) (fun _ _ _ _ _ => ?_)
    | refine stp_vMapE (fun _ => ?_) (fun _ _ => ?_)
    | refine stp_vIfaceE (fun _ => ?_) (fun _ _ _ => ?_)
    | refine stp_vNonNil (fun _ _ _ => ?_) (fun _ _ _ => ?_) (fun _ _ _ _ => ?_)
    | refine stp_vConv (fun _ _ _ => ?_) (fun _ _ => ?_) (fun _ => ?_) (fun _ _ _ _ _ => ?_) (fun _ _ _ => ?_)
    | refine stp_vCut (fun _ _ => ?_) (fun _ => ?_) (fun _ _ _ _ _ => ?_) (fun _ _ _ => ?_)
    | refine stp_vIdx (fun _ _ _ _ _ => ?_) (fun _ _ _ => ?_)
    | refine stp_vIdxV (fun _ _ => ?_) (fun _ _ => ?_)
    | refine stp_vRange (fun _ _ => ?_) (fun _ => ?_) (fun _ _ => ?_)
    | refine stp_vLen (fun _ _ => ?_) (fun _ => ?_) (fun _ => ?_) (fun _ _ _ _ _ => ?_) (fun _ _ => ?_)
    | refine stp_vPtrE (fun _ => ?_) (fun _ _ _ => ?_)
    | refine stp_vU8 fun _ _ => ?_
    | refine stp_bnd (fun _ => ?_) (fun _ _ _ => ?_)
    | refine stp_withMap fun _ _ _ => ?_
    | refine stp_withRow fun _ _ _ _ => ?_
    | refine stp_withIter (fun _ _ _ => ?_) (fun _ _ _ _ _ => ?_)
    | refine stp_hit (fun _ => ?_) (fun _ _ _ => ?_)
    | refine stp_atMostOne (fun _ => ?_) (fun _ _ => ?_)
    | refine stp_args1 fun _ _ => ?_
    | refine stp_args2 fun _ _ _ => ?_
    | refine stp_ty1 fun _ _ _ => ?_

theorem stp_Alloc {tt : Trie TI} {t : TypeId} : Stp s (opAlloc tt s t) := by
  unfold opAlloc
  repeat' first
    | exact stp_same
    | exact stp_new
    | exact fun h => .setNew s _ _ h
    | exact fun _ => .set s _ none (.inr rfl)
    | exact fun _ => .setL (by assumption)
    | exact (rfl : _ = _)
    | trivial
    | refine stp_chk fun _ => ?_
    | refine stp_iff (fun _ => ?_) (fun _ => ?_)
    | refine stp_oTI fun _ _ => ?_
    | refine stp_oCells fun _ _ => ?_
    | refine stp_oAV fun _ _ => ?_
    | refine stp_oSt fun _ hw => ?_
    | exact fun _ => .write (by assumption)
    | refine stp_oBlk fun _ _ => ?_
    | refine stp_oNat fun _ _ => ?_
    | refine stp_oBytes fun _ _ => ?_
    | refine stp_oKind fun _ _ => ?_
    | refine stp_oElem fun _ _ => ?_
    | refine stp_oPair fun _ _ => ?_
    | refine stp_oFound fun _ _ => ?_
    | refine stp_oDec fun _ _ => ?_
    | refine stp_oMeth fun _ _ => ?_
    | refine stp_oSrc fun _ _ => ?_
    | refine stp_oVal fun _ _ => ?_
    | refine stp_oEl (fun _ _ => ?_) (fun _ => ?_)
    | refine stp_vPtr fun _ _ _ => ?_
    | refine stp_vInt fun _ _ _ => ?_
    | refine stp_vNat fun _ _ _ => ?_
    | refine stp_vStr fun _ _ => ?_
    | refine stp_vAgg fun _ _ => ?_
    | refine stp_vTup fun _ _ => ?_
    | refine stp_vMap fun _ _ => ?_
    | refine stp_vBool fun _ _ => ?_
    | refine stp_vIface fun _ _ _ => ?_
    | refine stp_vFn fun _ _ _ _ => ?_
    | refine stp_vSlE (fun _ => ?_) (fun _ _ _ _ _ => ?_)
    | refine stp_vMapE (fun _ => ?_) (fun _ _ => ?_)
    | refine stp_vIfaceE (fun _ => ?_) (fun _ _ _ => ?_)
    | refine stp_vNonNil (fun _ _ _ => ?_) (fun _ _ _ => ?_) (fun _ _ _ _ => ?_)
    | refine stp_vConv (fun _ _ _ => ?_) (fun _ _ => ?_) (fun _ => ?_) (fun _ _ _ _ _ => ?_) (fun _ _ _ => ?_)
    | refine stp_vCut (fun _ _ => ?_) (fun _ => ?_) (fun _ _ _ _ _ => ?_) (fun _ _ _ => ?_)
    | refine stp_vIdx (fun _ _ _ _ _ => ?_) (fun _ _ _ => ?_)
    | refine stp_vIdxV (fun _ _ => ?_) (fun _ _ => ?_)
    | refine stp_vRange (fun _ _ => ?_) (fun _ => ?_) (fun _ _ => ?_)
    | refine stp_vLen (fun _ _ => ?_) (fun _ => ?_) (fun _ => ?_) (fun _ _ _ _ _ => ?_) (fun _ _ => ?_)
    | refine stp_vPtrE (fun _ => ?_) (fun _ _ _ => ?_)
    | refine stp_vU8 fun _ _ => ?_
    | refine stp_bnd (fun _ => ?_) (fun _ _ _ => ?_)
    | refine stp_withMap fun _ _ _ => ?_
    | refine stp_withRow fun _ _ _ _ => ?_
    | refine stp_withIter (fun _ _ _ => ?_) (fun _ _ _ _ _ => ?_)
    | refine stp_hit (fun _ => ?_) (fun _ _ _ => ?_)
    | refine stp_atMostOne (fun _ => ?_) (fun _ _ => ?_)
    | refine stp_args1 fun _ _ => ?_
    | refine stp_args2 fun _ _ _ => ?_
    | refine stp_ty1 fun _ _ _ => ?_

theorem stp_Box {t : TypeId} {v : AV} : Stp s (opBox s t v) := by
  unfold opBox
  repeat' first
    | exact stp_same
    | exact stp_new
    | exact fun h => .setNew s _ _ h
    | exact fun _ => .set s _ none (.inr rfl)
    | exact fun _ => .setL (by assumption)
    | exact (rfl : _ = _)
    | trivial
    | refine stp_chk fun _ => ?_
    | refine stp_iff (fun _ => ?_) (fun _ => ?_)
    | refine stp_oTI fun _ _ => ?_
    | refine stp_oCells fun _ _ => ?_
    | refine stp_oAV fun _ _ => ?_
    | refine stp_oSt fun _ hw => ?_
    | exact fun _ => .write (by assumption)
    | refine stp_oBlk fun _ _ => ?_
    | refine stp_oNat fun _ _ => ?_
    | refine stp_oBytes fun _ _ => ?_
    | refine stp_oKind fun _ _ => ?_
    | refine stp_oElem fun _ _ => ?_
    | refine stp_oPair fun _ _ => ?_
    | refine stp_oFound fun _ _ => ?_
    | refine stp_oDec fun _ _ => ?_
    | refine stp_oMeth fun _ _ => ?_
    | refine stp_oSrc fun _ _ => ?_
    | refine stp_oVal fun _ _ => ?_
    | refine stp_oEl (fun _ _ => ?_) (fun _ => ?_)
    | refine stp_vPtr fun _ _ _ => ?_
    | refine stp_vInt fun _ _ _ => ?_
    | refine stp_vNat fun _ _ _ => ?_
    | refine stp_vStr fun _ _ => ?_
    | refine stp_vAgg fun _ _ => ?_
    | refine stp_vTup fun _ _ => ?_
    | refine stp_vMap fun _ _ => ?_
    | refine stp_vBool fun _ _ => ?_
    | refine stp_vIface fun _ _ _ => ?_
    | refine stp_vFn fun _ _ _ _ => ?_
    | refine stp_vSlE (fun _ => ?_) (fun _ _ _ _ _ => ?_)
    | refine stp_vMapE (fun _ => ?_) (fun _ _ => ?_)
    | refine stp_vIfaceE (fun _ => ?_) (fun _ _ _ => ?_)
    | refine stp_vNonNil (fun _ _ _ => ?_) (fun _ _ _ => ?_) (fun _ _ _ _ => ?_)
    | refine stp_vConv (fun _ _ _ => ?_) (fun _ _ => ?_) (fun _ => ?_) (fun _ _ _ _ _ => ?_) (fun _ _ _ => ?_)
    | refine stp_vCut (fun _ _ => ?_) (fun _ => ?_) (fun _ _ _ _ _ => ?_) (fun _ _ _ => ?_)
    | refine stp_vIdx (fun _ _ _ _ _ => ?_) (fun _ _ _ => ?_)
    | refine stp_vIdxV (fun _ _ => ?_) (fun _ _ => ?_)
    | refine stp_vRange (fun _ _ => ?_) (fun _ => ?_) (fun _ _ => ?_)
    | refine stp_vLen (fun _ _ => ?_) (fun _ => ?_) (fun _ => ?_) (fun _ _ _ _ _ => ?_) (fun _ _ => ?_)
    | refine stp_vPtrE (fun _ => ?_) (fun _ _ _ => ?_)
    | refine stp_vU8 fun _ _ => ?_
    | refine stp_bnd (fun _ => ?_) (fun _ _ _ => ?_)
    | refine stp_withMap fun _ _ _ => ?_
    | refine stp_withRow fun _ _ _ _ => ?_
    | refine stp_withIter (fun _ _ _ => ?_) (fun _ _ _ _ _ => ?_)
    | refine stp_hit (fun _ => ?_) (fun _ _ _ => ?_)
    | refine stp_atMostOne (fun _ => ?_) (fun _ _ => ?_)
    | refine stp_args1 fun _ _ => ?_
    | refine stp_args2 fun _ _ _ => ?_
    | refine stp_ty1 fun _ _ _ => ?_

theorem stp_Build {tt : Trie TI} {t : TypeId} {ps : List (Nat × AV)} : Stp s (opBuild tt s t ps) := by
  unfold opBuild
  repeat' first
    | exact stp_same
    | exact stp_new
    | exact fun h => .setNew s _ _ h
    | exact fun _ => .set s _ none (.inr rfl)
    | exact fun _ => .setL (by assumption)
    | exact (rfl : _ = _)
    | trivial
    | refine stp_chk fun _ => ?_
    | refine stp_iff (fun _ => ?_) (fun _ => ?_)
    | refine stp_oTI fun _ _ => ?_
    | refine stp_oCells fun _ _ => ?_
    | refine stp_oAV fun _ _ => ?_
    | refine stp_oSt fun _ hw => ?_
    | exact fun _ => .write (by assumption)
    | refine stp_oBlk fun _ _ => ?_
    | refine stp_oNat fun _ _ => ?_
    | refine stp_oBytes fun _ _ => ?_
    | refine stp_oKind fun _ _ => ?_
    | refine stp_oElem fun _ _ => ?_
    | refine stp_oPair fun _ _ => ?_
    | refine stp_oFound fun _ _ => ?_
    | refine stp_oDec fun _ _ => ?_
    | refine stp_oMeth fun _ _ => ?_
    | refine stp_oSrc fun _ _ => ?_
    | refine stp_oVal fun _ _ => ?_
    | refine stp_oEl (fun _ _ => ?_) (fun _ => ?_)
    | refine stp_vPtr fun _ _ _ => ?_
    | refine stp_vInt fun _ _ _ => ?_
    | refine stp_vNat fun _ _ _ => ?_
    | refine stp_vStr fun _ _ => ?_
    | refine stp_vAgg fun _ _ => ?_
    | refine stp_vTup fun _ _ => ?_
    | refine stp_vMap fun _ _ => ?_
    | refine stp_vBool fun _ _ => ?_
    | refine stp_vIface fun _ _ _ => ?_
    | refine stp_vFn fun _ _ _ _ => ?_
    | refine stp_vSlE (fun _ => ?_) (fun _ _ _ _ _ => ?_)
    | refine stp_vMapE (fun _ => ?_) (fun _ _ => ?_)
    | refine stp_vIfaceE (fun _ => ?_) (fun _ _ _ => ?_)
    | refine stp_vNonNil (fun _ _ _ => ?_) (fun _ _ _ => ?_) (fun _ _ _ _ => ?_)
    | refine stp_vConv (fun _ _ _ => ?_) (fun _ _ => ?_) (fun _ => ?_) (fun _ _ _ _ _ => ?_) (fun _ _ _ => ?_)
    | refine stp_vCut (fun _ _ => ?_) (fun _ => ?_) (fun _ _ _ _ _ => ?_) (fun _ _ _ => ?_)
    | refine stp_vIdx (fun _ _ _ _ _ => ?_) (fun _ _ _ => ?_)
    | refine stp_vIdxV (fun _ _ => ?_) (fun _ _ => ?_)
    | refine stp_vRange (fun _ _ => ?_) (fun _ => ?_) (fun _ _ => ?_)
    | refine stp_vLen (fun _ _ => ?_) (fun _ => ?_) (fun _ => ?_) (fun _ _ _ _ _ => ?_) (fun _ _ => ?_)
    | refine stp_vPtrE (fun _ => ?_) (fun _ _ _ => ?_)
    | refine stp_vU8 fun _ _ => ?_
    | refine stp_bnd (fun _ => ?_) (fun _ _ _ => ?_)
    | refine stp_withMap fun _ _ _ => ?_
    | refine stp_withRow fun _ _ _ _ => ?_
    | refine stp_withIter (fun _ _ _ => ?_) (fun _ _ _ _ _ => ?_)
    | refine stp_hit (fun _ => ?_) (fun _ _ _ => ?_)
    | refine stp_atMostOne (fun _ => ?_) (fun _ _ => ?_)
    | refine stp_args1 fun _ _ => ?_
    | refine stp_args2 fun _ _ _ => ?_
    | refine stp_ty1 fun _ _ _ => ?_

theorem stp_BuildSlice {tt : Trie TI} {t : TypeId} {n : Nat} {ps : List (Nat × AV)} : Stp s (opBuildSlice tt s t n ps) := by
  unfold opBuildSlice
  repeat' first
    | exact stp_same
    | exact stp_new
    | exact fun h => .setNew s _ _ h
    | exact fun _ => .set s _ none (.inr rfl)
    | exact fun _ => .setL (by assumption)
    | exact (rfl : _ = _)
    | trivial
    | refine stp_chk fun _ => ?_
    | refine stp_iff (fun _ => ?_) (fun _ => ?_)
    | refine stp_oTI fun _ _ => ?_
    | refine stp_oCells fun _ _ => ?_
    | refine stp_oAV fun _ _ => ?_
    | refine stp_oSt fun _ hw => ?_
    | exact fun _ => .write (by assumption)
    | refine stp_oBlk fun _ _ => ?_
    | refine stp_oNat fun _ _ => ?_
    | refine stp_oBytes fun _ _ => ?_
    | refine stp_oKind fun _ _ => ?_
    | refine stp_oElem fun _ _ => ?_
    | refine stp_oPair fun _ _ => ?_
    | refine stp_oFound fun _ _ => ?_
    | refine stp_oDec fun _ _ => ?_
    | refine stp_oMeth fun _ _ => ?_
    | refine stp_oSrc fun _ _ => ?_
    | refine stp_oVal fun _ _ => ?_
    | refine stp_oEl (fun _ _ => ?_) (fun _ => ?_)
    | refine stp_vPtr fun _ _ _ => ?_
    | refine stp_vInt fun _ _ _ => ?_
    | refine stp_vNat fun _ _ _ => ?_
    | refine stp_vStr fun _ _ => ?_
    | refine stp_vAgg fun _ _ => ?_
    | refine stp_vTup fun _ _ => ?_
    | refine stp_vMap fun _ _ => ?_
    | refine stp_vBool fun _ _ => ?_
    | refine stp_vIface fun _ _ _ => ?_
    | refine stp_vFn fun _ _ _ _ => ?_
    | refine stp_vSlE (fun _ => ?_) (fun _ _ _ _ _ => ?_)
    | refine stp_vMapE (fun _ => ?_) (fun _ _ => ?_)
    | refine stp_vIfaceE (fun _ => ?_) (fun _ _ _ => ?_)
    | refine stp_vNonNil (fun _ _ _ => ?_) (fun _ _ _ => ?_) (fun _ _ _ _ => ?_)
    | refine stp_vConv (fun _ _ _ => ?_) (fun _ _ => ?_) (fun _ => ?_) (fun _ _ _ _ _ => ?_) (fun _ _ _ => ?_)
    | refine stp_vCut (fun _ _ => ?_) (fun _ => ?_) (fun _ _ _ _ _ => ?_) (fun _ _ _ => ?_)
    | refine stp_vIdx (fun _ _ _ _ _ => ?_) (fun _ _ _ => ?_)
    | refine stp_vIdxV (fun _ _ => ?_) (fun _ _ => ?_)
    | refine stp_vRange (fun _ _ => ?_) (fun _ => ?_) (fun _ _ => ?_)
    | refine stp_vLen (fun _ _ => ?_) (fun _ => ?_) (fun _ => ?_) (fun _ _ _ _ _ => ?_) (fun _ _ => ?_)
    | refine stp_vPtrE (fun _ => ?_) (fun _ _ _ => ?_)
    | refine stp_vU8 fun _ _ => ?_
    | refine stp_bnd (fun _ => ?_) (fun _ _ _ => ?_)
    | refine stp_withMap fun _ _ _ => ?_
    | refine stp_withRow fun _ _ _ _ => ?_
    | refine stp_withIter (fun _ _ _ => ?_) (fun _ _ _ _ _ => ?_)
    | refine stp_hit (fun _ => ?_) (fun _ _ _ => ?_)
    | refine stp_atMostOne (fun _ => ?_) (fun _ _ => ?_)
    | refine stp_args1 fun _ _ => ?_
    | refine stp_args2 fun _ _ _ => ?_
    | refine stp_ty1 fun _ _ _ => ?_

theorem stp_Load {tt : Trie TI} {t : TypeId} {a : AV} : Stp s (opLoad tt s t a) := by
  unfold opLoad
  repeat' first
    | exact stp_same
    | exact stp_new
    | exact fun h => .setNew s _ _ h
    | exact fun _ => .set s _ none (.inr rfl)
    | exact fun _ => .setL (by assumption)
    | exact (rfl : _ = _)
    | trivial
    | refine stp_chk fun _ => ?_
    | refine stp_iff (fun _ => ?_) (fun _ => ?_)
    | refine stp_oTI fun _ _ => ?_
    | refine stp_oCells fun _ _ => ?_
    | refine stp_oAV fun _ _ => ?_
    | refine stp_oSt fun _ hw => ?_
    | exact fun _ => .write (by assumption)
    | refine stp_oBlk fun _ _ => ?_
    | refine stp_oNat fun _ _ => ?_
    | refine stp_oBytes fun _ _ => ?_
    | refine stp_oKind fun _ _ => ?_
    | refine stp_oElem fun _ _ => ?_
    | refine stp_oPair fun _ _ => ?_
    | refine stp_oFound fun _ _ => ?_
    | refine stp_oDec fun _ _ => ?_
    | refine stp_oMeth fun _ _ => ?_
    | refine stp_oSrc fun _ _ => ?_
    | refine stp_oVal fun _ _ => ?_
    | refine stp_oEl (fun _ _ => ?_) (fun _ => ?_)
    | refine stp_vPtr fun _ _ _ => ?_
    | refine stp_vInt fun _ _ _ => ?_
    | refine stp_vNat fun _ _ _ => ?_
    | refine stp_vStr fun _ _ => ?_
    | refine stp_vAgg fun _ _ => ?_
    | refine stp_vTup fun _ _ => ?_
    | refine stp_vMap fun _ _ => ?_
    | refine stp_vBool fun _ _ => ?_
    | refine stp_vIface fun _ _ _ => ?_
    | refine stp_vFn fun _ _ _ _ => ?_
    | refine stp_vSlE (fun _ => ?_) (fun _ _ _ _ _ => ?_)
    | refine stp_vMapE (fun _ => ?_) (fun _ _ => ?_)
    | refine stp_vIfaceE (fun _ => ?_) (fun _ _ _ => ?_)
    | refine stp_vNonNil (fun _ _ _ => ?_) (fun _ _ _ => ?_) (fun _ _ _ _ => ?_)
    | refine stp_vConv (fun _ _ _ => ?_) (fun _ _ => ?_) (fun _ => ?_) (fun _ _ _ _ _ => ?_) (fun _ _ _ => ?_)
    | refine stp_vCut (fun _ _ => ?_) (fun _ => ?_) (fun _ _ _ _ _ => ?_) (fun _ _ _ => ?_)
    | refine stp_vIdx (fun _ _ _ _ _ => ?_) (fun _ _ _ => ?_)
    | refine stp_vIdxV (fun _ _ => ?_) (fun _ _ => ?_)
    | refine stp_vRange (fun _ _ => ?_) (fun _ => ?_) (fun _ _ => ?_)
    | refine stp_vLen (fun _ _ => ?_) (fun _ => ?_) (fun _ => ?_) (fun _ _ _ _ _ => ?_) (fun _ _ => ?_)
    | refine stp_vPtrE (fun _ => ?_) (fun _ _ _ => ?_)
    | refine stp_vU8 fun _ _ => ?_
    | refine stp_bnd (fun _ => ?_) (fun _ _ _ => ?_)
    | refine stp_withMap fun _ _ _ => ?_
    | refine stp_withRow fun _ _ _ _ => ?_
    | refine stp_withIter (fun _ _ _ => ?_) (fun _ _ _ _ _ => ?_)
    | refine stp_hit (fun _ => ?_) (fun _ _ _ => ?_)
    | refine stp_atMostOne (fun _ => ?_) (fun _ _ => ?_)
    | refine stp_args1 fun _ _ => ?_
    | refine stp_args2 fun _ _ _ => ?_
    | refine stp_ty1 fun _ _ _ => ?_

theorem stp_Store {tt : Trie TI} {t : TypeId} {a v : AV} : Stp s (opStore tt s t a v) := by
  unfold opStore
  repeat' first
    | exact stp_same
    | exact stp_new
    | exact fun h => .setNew s _ _ h
    | exact fun _ => .set s _ none (.inr rfl)
    | exact fun _ => .setL (by assumption)
    | exact (rfl : _ = _)
    | trivial
    | refine stp_chk fun _ => ?_
    | refine stp_iff (fun _ => ?_) (fun _ => ?_)
    | refine stp_oTI fun _ _ => ?_
    | refine stp_oCells fun _ _ => ?_
    | refine stp_oAV fun _ _ => ?_
    | refine stp_oSt fun _ hw => ?_
    | exact fun _ => .write (by assumption)
    | refine stp_oBlk fun _ _ => ?_
    | refine stp_oNat fun _ _ => ?_
    | refine stp_oBytes fun _ _ => ?_
    | refine stp_oKind fun _ _ => ?_
    | refine stp_oElem fun _ _ => ?_
    | refine stp_oPair fun _ _ => ?_
    | refine stp_oFound fun _ _ => ?_
    | refine stp_oDec fun _ _ => ?_
    | refine stp_oMeth fun _ _ => ?_
    | refine stp_oSrc fun _ _ => ?_
    | refine stp_oVal fun _ _ => ?_
    | refine stp_oEl (fun _ _ => ?_) (fun _ => ?_)
    | refine stp_vPtr fun _ _ _ => ?_
    | refine stp_vInt fun _ _ _ => ?_
    | refine stp_vNat fun _ _ _ => ?_
    | refine stp_vStr fun _ _ => ?_
    | refine stp_vAgg fun _ _ => ?_
    | refine stp_vTup fun _ _ => ?_
    | refine stp_vMap fun _ _ => ?_
    | refine stp_vBool fun _ _ => ?_
    | refine stp_vIface fun _ _ _ => ?_
    | refine stp_vFn fun _ _ _ _ => ?_
    | refine stp_vSlE (fun _ => ?_) (fun _ _ _ _ _ => ?_)
    | refine stp_vMapE (fun _ => ?_) (fun _ _ => ?_)
    | refine stp_vIfaceE (fun _ => ?_) (fun _ _ _ => ?_)
    | refine stp_vNonNil (fun _ _ _ => ?_) (fun _ _ _ => ?_) (fun _ _ _ _ => ?_)
    | refine stp_vConv (fun _ _ _ => ?_) (fun _ _ => ?_) (fun _ => ?_) (fun _ _ _ _ _ => ?_) (fun _ _ _ => ?_)
    | refine stp_vCut (fun _ _ => ?_) (fun _ => ?_) (fun _ _ _ _ _ => ?_) (fun _ _ _ => ?_)
    | refine stp_vIdx (fun _ _ _ _ _ => ?_) (fun _ _ _ => ?_)
    | refine stp_vIdxV (fun _ _ => ?_) (fun _ _ => ?_)
    | refine stp_vRange (fun _ _ => ?_) (fun _ => ?_) (fun _ _ => ?_)
    | refine stp_vLen (fun _ _ => ?_) (fun _ => ?_) (fun _ => ?_) (fun _ _ _ _ _ => ?_) (fun _ _ => ?_)
    | refine stp_vPtrE (fun _ => ?_) (fun _ _ _ => ?_)
    | refine stp_vU8 fun _ _ => ?_
    | refine stp_bnd (fun _ => ?_) (fun _ _ _ => ?_)
    | refine stp_withMap fun _ _ _ => ?_
    | refine stp_withRow fun _ _ _ _ => ?_
    | refine stp_withIter (fun _ _ _ => ?_) (fun _ _ _ _ _ => ?_)
    | refine stp_hit (fun _ => ?_) (fun _ _ _ => ?_)
    | refine stp_atMostOne (fun _ => ?_) (fun _ _ => ?_)
    | refine stp_args1 fun _ _ => ?_
    | refine stp_args2 fun _ _ _ => ?_
    | refine stp_ty1 fun _ _ _ => ?_

theorem stp_NilCheck {x : AV} : Stp s (opNilCheck s x) := by
  unfold opNilCheck
  repeat' first
    | exact stp_same
    | exact stp_new
    | exact fun h => .setNew s _ _ h
    | exact fun _ => .set s _ none (.inr rfl)
    | exact fun _ => .setL (by assumption)
    | exact (rfl : _ = _)
    | trivial
    | refine stp_chk fun _ => ?_
    | refine stp_iff (fun _ => ?_) (fun _ => ?_)
    | refine stp_oTI fun _ _ => ?_
    | refine stp_oCells fun _ _ => ?_
    | refine stp_oAV fun _ _ => ?_
    | refine stp_oSt fun _ hw => ?_
    | exact fun _ => .write (by assumption)
    | refine stp_oBlk fun _ _ => ?_
    | refine stp_oNat fun _ _ => ?_
    | refine stp_oBytes fun _ _ => ?_
    | refine stp_oKind fun _ _ => ?_
    | refine stp_oElem fun _ _ => ?_
    | refine stp_oPair fun _ _ => ?_
    | refine stp_oFound fun _ _ => ?_
    | refine stp_oDec fun _ _ => ?_
    | refine stp_oMeth fun _ _ => ?_
    | refine stp_oSrc fun _ _ => ?_
    | refine stp_oVal fun _ _ => ?_
    | refine stp_oEl (fun _ _ => ?_) (fun _ => ?_)
    | refine stp_vPtr fun _ _ _ => ?_
    | refine stp_vInt fun _ _ _ => ?_
    | refine stp_vNat fun _ _ _ => ?_
    | refine stp_vStr fun _ _ => ?_
    | refine stp_vAgg fun _ _ => ?_
    | refine stp_vTup fun _ _ => ?_
    | refine stp_vMap fun _ _ => ?_
    | refine stp_vBool fun _ _ => ?_
    | refine stp_vIface fun _ _ _ => ?_
    | refine stp_vFn fun _ _ _ _ => ?_
    | refine stp_vSlE (fun _ => ?_) (fun _ _ _ _ _ => ?_)
    | refine stp_vMapE (fun _ => ?_) (fun _ _ => ?_)
    | refine stp_vIfaceE (fun _ => ?_) (fun _ _ _ => ?_)
    | refine stp_vNonNil (fun _ _ _ => ?_) (fun _ _ _ => ?_) (fun _ _ _ _ => ?_)
    | refine stp_vConv (fun _ _ _ => ?_) (fun _ _ => ?_) (fun _ => ?_) (fun _ _ _ _ _ => ?_) (fun _ _ _ => ?_)
    | refine stp_vCut (fun _ _ => ?_) (fun _ => ?_) (fun _ _ _ _ _ => ?_) (fun _ _ _ => ?_)
    | refine stp_vIdx (fun _ _ _ _ _ => ?_) (fun _ _ _ => ?_)
    | refine stp_vIdxV (fun _ _ => ?_) (fun _ _ => ?_)
    | refine stp_vRange (fun _ _ => ?_) (fun _ => ?_) (fun _ _ => ?_)
    | refine stp_vLen (fun _ _ => ?_) (fun _ => ?_) (fun _ => ?_) (fun _ _ _ _ _ => ?_) (fun _ _ => ?_)
    | refine stp_vPtrE (fun _ => ?_) (fun _ _ _ => ?_)
    | refine stp_vU8 fun _ _ => ?_
    | refine stp_bnd (fun _ => ?_) (fun _ _ _ => ?_)
    | refine stp_withMap fun _ _ _ => ?_
    | refine stp_withRow fun _ _ _ _ => ?_
    | refine stp_withIter (fun _ _ _ => ?_) (fun _ _ _ _ _ => ?_)
    | refine stp_hit (fun _ => ?_) (fun _ _ _ => ?_)
    | refine stp_atMostOne (fun _ => ?_) (fun _ _ => ?_)
    | refine stp_args1 fun _ _ => ?_
    | refine stp_args2 fun _ _ _ => ?_
    | refine stp_ty1 fun _ _ _ => ?_

theorem stp_PtrNe {op : BinOp} {p q : Nat × Nat} : Stp s (ptrNe s op p q) := by
  unfold ptrNe
  repeat' first
    | exact stp_same
    | exact stp_new
    | exact fun h => .setNew s _ _ h
    | exact fun _ => .set s _ none (.inr rfl)
    | exact fun _ => .setL (by assumption)
    | exact (rfl : _ = _)
    | trivial
    | refine stp_chk fun _ => ?_
    | refine stp_iff (fun _ => ?_) (fun _ => ?_)
    | refine stp_oTI fun _ _ => ?_
    | refine stp_oCells fun _ _ => ?_
    | refine stp_oAV fun _ _ => ?_
    | refine stp_oSt fun _ hw => ?_
    | exact fun _ => .write (by assumption)
    | refine stp_oBlk fun _ _ => ?_
    | refine stp_oNat fun _ _ => ?_
    | refine stp_oBytes fun _ _ => ?_
    | refine stp_oKind fun _ _ => ?_
    | refine stp_oElem fun _ _ => ?_
    | refine stp_oPair fun _ _ => ?_
    | refine stp_oFound fun _ _ => ?_
    | refine stp_oDec fun _ _ => ?_
    | refine stp_oMeth fun _ _ => ?_
    | refine stp_oSrc fun _ _ => ?_
    | refine stp_oVal fun _ _ => ?_
    | refine stp_oEl (fun _ _ => ?_) (fun _ => ?_)
    | refine stp_vPtr fun _ _ _ => ?_
    | refine stp_vInt fun _ _ _ => ?_
    | refine stp_vNat fun _ _ _ => ?_
    | refine stp_vStr fun _ _ => ?_
    | refine stp_vAgg fun _ _ => ?_
    | refine stp_vTup fun _ _ => ?_
    | refine stp_vMap fun _ _ => ?_
    | refine stp_vBool fun _ _ => ?_
    | refine stp_vIface fun _ _ _ => ?_
    | refine stp_vFn fun _ _ _ _ => ?_
    | refine stp_vSlE (fun _ => ?_) (fun _ _ _ _ _ => ?_)
    | refine stp_vMapE (fun _ => ?_) (fun _ _ => ?_)
    | refine stp_vIfaceE (fun _ => ?_) (fun _ _ _ => ?_)
    | refine stp_vNonNil (fun _ _ _ => ?_) (fun _ _ _ => ?_) (fun _ _ _ _ => ?_)
    | refine stp_vConv (fun _ _ _ => ?_) (fun _ _ => ?_) (fun _ => ?_) (fun _ _ _ _ _ => ?_) (fun _ _ _ => ?_)
    | refine stp_vCut (fun _ _ => ?_) (fun _ => ?_) (fun _ _ _ _ _ => ?_) (fun _ _ _ => ?_)
    | refine stp_vIdx (fun _ _ _ _ _ => ?_) (fun _ _ _ => ?_)
    | refine stp_vIdxV (fun _ _ => ?_) (fun _ _ => ?_)
    | refine stp_vRange (fun _ _ => ?_) (fun _ => ?_) (fun _ _ => ?_)
    | refine stp_vLen (fun _ _ => ?_) (fun _ => ?_) (fun _ => ?_) (fun _ _ _ _ _ => ?_) (fun _ _ => ?_)
    | refine stp_vPtrE (fun _ => ?_) (fun _ _ _ => ?_)
    | refine stp_vU8 fun _ _ => ?_
    | refine stp_bnd (fun _ => ?_) (fun _ _ _ => ?_)
    | refine stp_withMap fun _ _ _ => ?_
    | refine stp_withRow fun _ _ _ _ => ?_
    | refine stp_withIter (fun _ _ _ => ?_) (fun _ _ _ _ _ => ?_)
    | refine stp_hit (fun _ => ?_) (fun _ _ _ => ?_)
    | refine stp_atMostOne (fun _ => ?_) (fun _ _ => ?_)
    | refine stp_args1 fun _ _ => ?_
    | refine stp_args2 fun _ _ _ => ?_
    | refine stp_ty1 fun _ _ _ => ?_

theorem stp_ConvPtr {tt : Trie TI} {sd td : TI} {b o : Nat} : Stp s (convPtr tt sd td s b o) := by
  unfold convPtr
  repeat' first
    | exact stp_same
    | exact stp_new
    | exact fun h => .setNew s _ _ h
    | exact fun _ => .set s _ none (.inr rfl)
    | exact fun _ => .setL (by assumption)
    | exact (rfl : _ = _)
    | trivial
    | refine stp_chk fun _ => ?_
    | refine stp_iff (fun _ => ?_) (fun _ => ?_)
    | refine stp_oTI fun _ _ => ?_
    | refine stp_oCells fun _ _ => ?_
    | refine stp_oAV fun _ _ => ?_
    | refine stp_oSt fun _ hw => ?_
    | exact fun _ => .write (by assumption)
    | refine stp_oBlk fun _ _ => ?_
    | refine stp_oNat fun _ _ => ?_
    | refine stp_oBytes fun _ _ => ?_
    | refine stp_oKind fun _ _ => ?_
    | refine stp_oElem fun _ _ => ?_
    | refine stp_oPair fun _ _ => ?_
    | refine stp_oFound fun _ _ => ?_
    | refine stp_oDec fun _ _ => ?_
    | refine stp_oMeth fun _ _ => ?_
    | refine stp_oSrc fun _ _ => ?_
    | refine stp_oVal fun _ _ => ?_
    | refine stp_oEl (fun _ _ => ?_) (fun _ => ?_)
    | refine stp_vPtr fun _ _ _ => ?_
    | refine stp_vInt fun _ _ _ => ?_
    | refine stp_vNat fun _ _ _ => ?_
    | refine stp_vStr fun _ _ => ?_
    | refine stp_vAgg fun _ _ => ?_
    | refine stp_vTup fun _ _ => ?_
    | refine stp_vMap fun _ _ => ?_
    | refine stp_vBool fun _ _ => ?_
    | refine stp_vIface fun _ _ _ => ?_
    | refine stp_vFn fun _ _ _ _ => ?_
    | refine stp_vSlE (fun _ => ?_) (fun _ _ _ _ _ => ?_)
    | refine stp_vMapE (fun _ => ?_) (fun _ _ => ?_)
    | refine stp_vIfaceE (fun _ => ?_) (fun _ _ _ => ?_)
    | refine stp_vNonNil (fun _ _ _ => ?_) (fun _ _ _ => ?_) (fun _ _ _ _ => ?_)
    | refine stp_vConv (fun _ _ _ => ?_) (fun _ _ => ?_) (fun _ => ?_) (fun _ _ _ _ _ => ?_) (fun _ _ _ => ?_)
    | refine stp_vCut (fun _ _ => ?_) (fun _ => ?_) (fun _ _ _ _ _ => ?_) (fun _ _ _ => ?_)
    | refine stp_vIdx (fun _ _ _ _ _ => ?_) (fun _ _ _ => ?_)
    | refine stp_vIdxV (fun _ _ => ?_) (fun _ _ => ?_)
    | refine stp_vRange (fun _ _ => ?_) (fun _ => ?_) (fun _ _ => ?_)
    | refine stp_vLen (fun _ _ => ?_) (fun _ => ?_) (fun _ => ?_) (fun _ _ _ _ _ => ?_) (fun _ _ => ?_)
    | refine stp_vPtrE (fun _ => ?_) (fun _ _ _ => ?_)
    | refine stp_vU8 fun _ _ => ?_
    | refine stp_bnd (fun _ => ?_) (fun _ _ _ => ?_)
    | refine stp_withMap fun _ _ _ => ?_
    | refine stp_withRow fun _ _ _ _ => ?_
    | refine stp_withIter (fun _ _ _ => ?_) (fun _ _ _ _ _ => ?_)
    | refine stp_hit (fun _ => ?_) (fun _ _ _ => ?_)
    | refine stp_atMostOne (fun _ => ?_) (fun _ _ => ?_)
    | refine stp_args1 fun _ _ => ?_
    | refine stp_args2 fun _ _ _ => ?_
    | refine stp_ty1 fun _ _ _ => ?_

theorem stp_ConvSlice {tt : Trie TI} {t : TypeId} {l : List Nat} : Stp s (convSlice tt s t l) := by
  unfold convSlice
  repeat' first
    | exact stp_same
    | exact stp_new
    | exact fun h => .setNew s _ _ h
    | exact fun _ => .set s _ none (.inr rfl)
    | exact fun _ => .setL (by assumption)
    | exact (rfl : _ = _)
    | trivial
    | refine stp_chk fun _ => ?_
    | refine stp_iff (fun _ => ?_) (fun _ => ?_)
    | refine stp_oTI fun _ _ => ?_
    | refine stp_oCells fun _ _ => ?_
    | refine stp_oAV fun _ _ => ?_
    | refine stp_oSt fun _ hw => ?_
    | exact fun _ => .write (by assumption)
    | refine stp_oBlk fun _ _ => ?_
    | refine stp_oNat fun _ _ => ?_
    | refine stp_oBytes fun _ _ => ?_
    | refine stp_oKind fun _ _ => ?_
    | refine stp_oElem fun _ _ => ?_
    | refine stp_oPair fun _ _ => ?_
    | refine stp_oFound fun _ _ => ?_
    | refine stp_oDec fun _ _ => ?_
    | refine stp_oMeth fun _ _ => ?_
    | refine stp_oSrc fun _ _ => ?_
    | refine stp_oVal fun _ _ => ?_
    | refine stp_oEl (fun _ _ => ?_) (fun _ => ?_)
    | refine stp_vPtr fun _ _ _ => ?_
    | refine stp_vInt fun _ _ _ => ?_
    | refine stp_vNat fun _ _ _ => ?_
    | refine stp_vStr fun _ _ => ?_
    | refine stp_vAgg fun _ _ => ?_
    | refine stp_vTup fun _ _ => ?_
    | refine stp_vMap fun _ _ => ?_
    | refine stp_vBool fun _ _ => ?_
    | refine stp_vIface fun _ _ _ => ?_
    | refine stp_vFn fun _ _ _ _ => ?_
    | refine stp_vSlE (fun _ => ?_) (fun _ _ _ _ _ => ?_)
    | refine stp_vMapE (fun _ => ?_) (fun _ _ => ?_)
    | refine stp_vIfaceE (fun _ => ?_) (fun _ _ _ => ?_)
    | refine stp_vNonNil (fun _ _ _ => ?_) (fun _ _ _ => ?_) (fun _ _ _ _ => ?_)
    | refine stp_vConv (fun _ _ _ => ?_) (fun _ _ => ?_) (fun _ => ?_) (fun _ _ _ _ _ => ?_) (fun _ _ _ => ?_)
    | refine stp_vCut (fun _ _ => ?_) (fun _ => ?_) (fun _ _ _ _ _ => ?_) (fun _ _ _ => ?_)
    | refine stp_vIdx (fun _ _ _ _ _ => ?_) (fun _ _ _ => ?_)
    | refine stp_vIdxV (fun _ _ => ?_) (fun _ _ => ?_)
    | refine stp_vRange (fun _ _ => ?_) (fun _ => ?_) (fun _ _ => ?_)
    | refine stp_vLen (fun _ _ => ?_) (fun _ => ?_) (fun _ => ?_) (fun _ _ _ _ _ => ?_) (fun _ _ => ?_)
    | refine stp_vPtrE (fun _ => ?_) (fun _ _ _ => ?_)
    | refine stp_vU8 fun _ _ => ?_
    | refine stp_bnd (fun _ => ?_) (fun _ _ _ => ?_)
    | refine stp_withMap fun _ _ _ => ?_
    | refine stp_withRow fun _ _ _ _ => ?_
    | refine stp_withIter (fun _ _ _ => ?_) (fun _ _ _ _ _ => ?_)
    | refine stp_hit (fun _ => ?_) (fun _ _ _ => ?_)
    | refine stp_atMostOne (fun _ => ?_) (fun _ _ => ?_)
    | refine stp_args1 fun _ _ => ?_
    | refine stp_args2 fun _ _ _ => ?_
    | refine stp_ty1 fun _ _ _ => ?_

theorem stp_MakeIface {tt : Trie TI} {t : TypeId} {v : AV} : Stp s (opMakeIface tt s t v) := by
  unfold opMakeIface
  repeat' first
    | exact stp_same
    | exact stp_new
    | exact fun h => .setNew s _ _ h
    | exact fun _ => .set s _ none (.inr rfl)
    | exact fun _ => .setL (by assumption)
    | exact (rfl : _ = _)
    | trivial
    | refine stp_chk fun _ => ?_
    | refine stp_iff (fun _ => ?_) (fun _ => ?_)
    | refine stp_oTI fun _ _ => ?_
    | refine stp_oCells fun _ _ => ?_
    | refine stp_oAV fun _ _ => ?_
    | refine stp_oSt fun _ hw => ?_
    | exact fun _ => .write (by assumption)
    | refine stp_oBlk fun _ _ => ?_
    | refine stp_oNat fun _ _ => ?_
    | refine stp_oBytes fun _ _ => ?_
    | refine stp_oKind fun _ _ => ?_
    | refine stp_oElem fun _ _ => ?_
    | refine stp_oPair fun _ _ => ?_
    | refine stp_oFound fun _ _ => ?_
    | refine stp_oDec fun _ _ => ?_
    | refine stp_oMeth fun _ _ => ?_
    | refine stp_oSrc fun _ _ => ?_
    | refine stp_oVal fun _ _ => ?_
    | refine stp_oEl (fun _ _ => ?_) (fun _ => ?_)
    | refine stp_vPtr fun _ _ _ => ?_
    | refine stp_vInt fun _ _ _ => ?_
    | refine stp_vNat fun _ _ _ => ?_
    | refine stp_vStr fun _ _ => ?_
    | refine stp_vAgg fun _ _ => ?_
    | refine stp_vTup fun _ _ => ?_
    | refine stp_vMap fun _ _ => ?_
    | refine stp_vBool fun _ _ => ?_
    | refine stp_vIface fun _ _ _ => ?_
    | refine stp_vFn fun _ _ _ _ => ?_
    | refine stp_vSlE (fun _ => ?_) (fun _ _ _ _ _ => ?_)
    | refine stp_vMapE (fun _ => ?_) (fun _ _ => ?_)
    | refine stp_vIfaceE (fun _ => ?_) (fun _ _ _ => ?_)
    | refine stp_vNonNil (fun _ _ _ => ?_) (fun _ _ _ => ?_) (fun _ _ _ _ => ?_)
    | refine stp_vConv (fun _ _ _ => ?_) (fun _ _ => ?_) (fun _ => ?_) (fun _ _ _ _ _ => ?_) (fun _ _ _ => ?_)
    | refine stp_vCut (fun _ _ => ?_) (fun _ => ?_) (fun _ _ _ _ _ => ?_) (fun _ _ _ => ?_)
    | refine stp_vIdx (fun _ _ _ _ _ => ?_) (fun _ _ _ => ?_)
    | refine stp_vIdxV (fun _ _ => ?_) (fun _ _ => ?_)
    | refine stp_vRange (fun _ _ => ?_) (fun _ => ?_) (fun _ _ => ?_)
    | refine stp_vLen (fun _ _ => ?_) (fun _ => ?_) (fun _ => ?_) (fun _ _ _ _ _ => ?_) (fun _ _ => ?_)
    | refine stp_vPtrE (fun _ => ?_) (fun _ _ _ => ?_)
    | refine stp_vU8 fun _ _ => ?_
    | refine stp_bnd (fun _ => ?_) (fun _ _ _ => ?_)
    | refine stp_withMap fun _ _ _ => ?_
    | refine stp_withRow fun _ _ _ _ => ?_
    | refine stp_withIter (fun _ _ _ => ?_) (fun _ _ _ _ _ => ?_)
    | refine stp_hit (fun _ => ?_) (fun _ _ _ => ?_)
    | refine stp_atMostOne (fun _ => ?_) (fun _ _ => ?_)
    | refine stp_args1 fun _ _ => ?_
    | refine stp_args2 fun _ _ _ => ?_
    | refine stp_ty1 fun _ _ _ => ?_

theorem stp_MakeSlice {tt : Trie TI} {t : TypeId} {l c : AV} : Stp s (opMakeSlice tt s t l c) := by
  unfold opMakeSlice
  repeat' first
    | exact stp_same
    | exact stp_new
    | exact fun h => .setNew s _ _ h
    | exact fun _ => .set s _ none (.inr rfl)
    | exact fun _ => .setL (by assumption)
    | exact (rfl : _ = _)
    | trivial
    | refine stp_chk fun _ => ?_
    | refine stp_iff (fun _ => ?_) (fun _ => ?_)
    | refine stp_oTI fun _ _ => ?_
    | refine stp_oCells fun _ _ => ?_
    | refine stp_oAV fun _ _ => ?_
    | refine stp_oSt fun _ hw => ?_
    | exact fun _ => .write (by assumption)
    | refine stp_oBlk fun _ _ => ?_
    | refine stp_oNat fun _ _ => ?_
    | refine stp_oBytes fun _ _ => ?_
    | refine stp_oKind fun _ _ => ?_
    | refine stp_oElem fun _ _ => ?_
    | refine stp_oPair fun _ _ => ?_
    | refine stp_oFound fun _ _ => ?_
    | refine stp_oDec fun _ _ => ?_
    | refine stp_oMeth fun _ _ => ?_
    | refine stp_oSrc fun _ _ => ?_
    | refine stp_oVal fun _ _ => ?_
    | refine stp_oEl (fun _ _ => ?_) (fun _ => ?_)
    | refine stp_vPtr fun _ _ _ => ?_
    | refine stp_vInt fun _ _ _ => ?_
    | refine stp_vNat fun _ _ _ => ?_
    | refine stp_vStr fun _ _ => ?_
    | refine stp_vAgg fun _ _ => ?_
    | refine stp_vTup fun _ _ => ?_
    | refine stp_vMap fun _ _ => ?_
    | refine stp_vBool fun _ _ => ?_
    | refine stp_vIface fun _ _ _ => ?_
    | refine stp_vFn fun _ _ _ _ => ?_
    | refine stp_vSlE (fun _ => ?_) (fun _ _ _ _ _ => ?_)
    | refine stp_vMapE (fun _ => ?_) (fun _ _ => ?_)
    | refine stp_vIfaceE (fun _ => ?_) (fun _ _ _ => ?_)
    | refine stp_vNonNil (fun _ _ _ => ?_) (fun _ _ _ => ?_) (fun _ _ _ _ => ?_)
    | refine stp_vConv (fun _ _ _ => ?_) (fun _ _ => ?_) (fun _ => ?_) (fun _ _ _ _ _ => ?_) (fun _ _ _ => ?_)
    | refine stp_vCut (fun _ _ => ?_) (fun _ => ?_) (fun _ _ _ _ _ => ?_) (fun _ _ _ => ?_)
    | refine stp_vIdx (fun _ _ _ _ _ => ?_) (fun _ _ _ => ?_)
    | refine stp_vIdxV (fun _ _ => ?_) (fun _ _ => ?_)
    | refine stp_vRange (fun _ _ => ?_) (fun _ => ?_) (fun _ _ => ?_)
    | refine stp_vLen (fun _ _ => ?_) (fun _ => ?_) (fun _ => ?_) (fun _ _ _ _ _ => ?_) (fun _ _ => ?_)
    | refine stp_vPtrE (fun _ => ?_) (fun _ _ _ => ?_)
    | refine stp_vU8 fun _ _ => ?_
    | refine stp_bnd (fun _ => ?_) (fun _ _ _ => ?_)
    | refine stp_withMap fun _ _ _ => ?_
    | refine stp_withRow fun _ _ _ _ => ?_
    | refine stp_withIter (fun _ _ _ => ?_) (fun _ _ _ _ _ => ?_)
    | refine stp_hit (fun _ => ?_) (fun _ _ _ => ?_)
    | refine stp_atMostOne (fun _ => ?_) (fun _ _ => ?_)
    | refine stp_args1 fun _ _ => ?_
    | refine stp_args2 fun _ _ _ => ?_
    | refine stp_ty1 fun _ _ _ => ?_

theorem stp_SliceStr {l : List Nat} {lo hi : Option AV} : Stp s (sliceStr s l lo hi) := by
  unfold sliceStr
  repeat' first
    | exact stp_same
    | exact stp_new
    | exact fun h => .setNew s _ _ h
    | exact fun _ => .set s _ none (.inr rfl)
    | exact fun _ => .setL (by assumption)
    | exact (rfl : _ = _)
    | trivial
    | refine stp_chk fun _ => ?_
    | refine stp_iff (fun _ => ?_) (fun _ => ?_)
    | refine stp_oTI fun _ _ => ?_
    | refine stp_oCells fun _ _ => ?_
    | refine stp_oAV fun _ _ => ?_
    | refine stp_oSt fun _ hw => ?_
    | exact fun _ => .write (by assumption)
    | refine stp_oBlk fun _ _ => ?_
    | refine stp_oNat fun _ _ => ?_
    | refine stp_oBytes fun _ _ => ?_
    | refine stp_oKind fun _ _ => ?_
    | refine stp_oElem fun _ _ => ?_
    | refine stp_oPair fun _ _ => ?_
    | refine stp_oFound fun _ _ => ?_
    | refine stp_oDec fun _ _ => ?_
    | refine stp_oMeth fun _ _ => ?_
    | refine stp_oSrc fun _ _ => ?_
    | refine stp_oVal fun _ _ => ?_
    | refine stp_oEl (fun _ _ => ?_) (fun _ => ?_)
    | refine stp_vPtr fun _ _ _ => ?_
    | refine stp_vInt fun _ _ _ => ?_
    | refine stp_vNat fun _ _ _ => ?_
    | refine stp_vStr fun _ _ => ?_
    | refine stp_vAgg fun _ _ => ?_
    | refine stp_vTup fun _ _ => ?_
    | refine stp_vMap fun _ _ => ?_
    | refine stp_vBool fun _ _ => ?_
    | refine stp_vIface fun _ _ _ => ?_
    | refine stp_vFn fun _ _ _ _ => ?_
    | refine stp_vSlE (fun _ => ?_) (fun _ _ _ _ _ => ?_)
    | refine stp_vMapE (fun _ => ?_) (fun _ _ => ?_)
    | refine stp_vIfaceE (fun _ => ?_) (fun _ _ _ => ?_)
    | refine stp_vNonNil (fun _ _ _ => ?_) (fun _ _ _ => ?_) (fun _ _ _ _ => ?_)
    | refine stp_vConv (fun _ _ _ => ?_) (fun _ _ => ?_) (fun _ => ?_) (fun _ _ _ _ _ => ?_) (fun _ _ _ => ?_)
    | refine stp_vCut (fun _ _ => ?_) (fun _ => ?_) (fun _ _ _ _ _ => ?_) (fun _ _ _ => ?_)
    | refine stp_vIdx (fun _ _ _ _ _ => ?_) (fun _ _ _ => ?_)
    | refine stp_vIdxV (fun _ _ => ?_) (fun _ _ => ?_)
    | refine stp_vRange (fun _ _ => ?_) (fun _ => ?_) (fun _ _ => ?_)
    | refine stp_vLen (fun _ _ => ?_) (fun _ => ?_) (fun _ => ?_) (fun _ _ _ _ _ => ?_) (fun _ _ => ?_)
    | refine stp_vPtrE (fun _ => ?_) (fun _ _ _ => ?_)
    | refine stp_vU8 fun _ _ => ?_
    | refine stp_bnd (fun _ => ?_) (fun _ _ _ => ?_)
    | refine stp_withMap fun _ _ _ => ?_
    | refine stp_withRow fun _ _ _ _ => ?_
    | refine stp_withIter (fun _ _ _ => ?_) (fun _ _ _ _ _ => ?_)
    | refine stp_hit (fun _ => ?_) (fun _ _ _ => ?_)
    | refine stp_atMostOne (fun _ => ?_) (fun _ _ => ?_)
    | refine stp_args1 fun _ _ => ?_
    | refine stp_args2 fun _ _ _ => ?_
    | refine stp_ty1 fun _ _ _ => ?_

theorem stp_SliceKnown {size b o len c : Nat} {lo hi mx : Option AV} : Stp s (sliceKnown s size b o len c lo hi mx) := by
  unfold sliceKnown
  repeat' first
    | exact stp_same
    | exact stp_new
    | exact fun h => .setNew s _ _ h
    | exact fun _ => .set s _ none (.inr rfl)
    | exact fun _ => .setL (by assumption)
    | exact (rfl : _ = _)
    | trivial
    | refine stp_chk fun _ => ?_
    | refine stp_iff (fun _ => ?_) (fun _ => ?_)
    | refine stp_oTI fun _ _ => ?_
    | refine stp_oCells fun _ _ => ?_
    | refine stp_oAV fun _ _ => ?_
    | refine stp_oSt fun _ hw => ?_
    | exact fun _ => .write (by assumption)
    | refine stp_oBlk fun _ _ => ?_
    | refine stp_oNat fun _ _ => ?_
    | refine stp_oBytes fun _ _ => ?_
    | refine stp_oKind fun _ _ => ?_
    | refine stp_oElem fun _ _ => ?_
    | refine stp_oPair fun _ _ => ?_
    | refine stp_oFound fun _ _ => ?_
    | refine stp_oDec fun _ _ => ?_
    | refine stp_oMeth fun _ _ => ?_
    | refine stp_oSrc fun _ _ => ?_
    | refine stp_oVal fun _ _ => ?_
    | refine stp_oEl (fun _ _ => ?_) (fun _ => ?_)
    | refine stp_vPtr fun _ _ _ => ?_
    | refine stp_vInt fun _ _ _ => ?_
    | refine stp_vNat fun _ _ _ => ?_
    | refine stp_vStr fun _ _ => ?_
    | refine stp_vAgg fun _ _ => ?_
    | refine stp_vTup fun _ _ => ?_
    | refine stp_vMap fun _ _ => ?_
    | refine stp_vBool fun _ _ => ?_
    | refine stp_vIface fun _ _ _ => ?_
    | refine stp_vFn fun _ _ _ _ => ?_
    | refine stp_vSlE (fun _ => ?_) (fun _ _ _ _ _ => ?_)
    | refine stp_vMapE (fun _ => ?_) (fun _ _ => ?_)
    | refine stp_vIfaceE (fun _ => ?_) (fun _ _ _ => ?_)
    | refine stp_vNonNil (fun _ _ _ => ?_) (fun _ _ _ => ?_) (fun _ _ _ _ => ?_)
    | refine stp_vConv (fun _ _ _ => ?_) (fun _ _ => ?_) (fun _ => ?_) (fun _ _ _ _ _ => ?_) (fun _ _ _ => ?_)
    | refine stp_vCut (fun _ _ => ?_) (fun _ => ?_) (fun _ _ _ _ _ => ?_) (fun _ _ _ => ?_)
    | refine stp_vIdx (fun _ _ _ _ _ => ?_) (fun _ _ _ => ?_)
    | refine stp_vIdxV (fun _ _ => ?_) (fun _ _ => ?_)
    | refine stp_vRange (fun _ _ => ?_) (fun _ => ?_) (fun _ _ => ?_)
    | refine stp_vLen (fun _ _ => ?_) (fun _ => ?_) (fun _ => ?_) (fun _ _ _ _ _ => ?_) (fun _ _ => ?_)
    | refine stp_vPtrE (fun _ => ?_) (fun _ _ _ => ?_)
    | refine stp_vU8 fun _ _ => ?_
    | refine stp_bnd (fun _ => ?_) (fun _ _ _ => ?_)
    | refine stp_withMap fun _ _ _ => ?_
    | refine stp_withRow fun _ _ _ _ => ?_
    | refine stp_withIter (fun _ _ _ => ?_) (fun _ _ _ _ _ => ?_)
    | refine stp_hit (fun _ => ?_) (fun _ _ _ => ?_)
    | refine stp_atMostOne (fun _ => ?_) (fun _ _ => ?_)
    | refine stp_args1 fun _ _ => ?_
    | refine stp_args2 fun _ _ _ => ?_
    | refine stp_ty1 fun _ _ _ => ?_

theorem stp_SliceOpen {e : TypeId} {size b o len : Nat} {lo hi : Option AV} : Stp s (sliceOpen s e size b o len lo hi) := by
  unfold sliceOpen
  repeat' first
    | exact stp_same
    | exact stp_new
    | exact fun h => .setNew s _ _ h
    | exact fun _ => .set s _ none (.inr rfl)
    | exact fun _ => .setL (by assumption)
    | exact (rfl : _ = _)
    | trivial
    | refine stp_chk fun _ => ?_
    | refine stp_iff (fun _ => ?_) (fun _ => ?_)
    | refine stp_oTI fun _ _ => ?_
    | refine stp_oCells fun _ _ => ?_
    | refine stp_oAV fun _ _ => ?_
    | refine stp_oSt fun _ hw => ?_
    | exact fun _ => .write (by assumption)
    | refine stp_oBlk fun _ _ => ?_
    | refine stp_oNat fun _ _ => ?_
    | refine stp_oBytes fun _ _ => ?_
    | refine stp_oKind fun _ _ => ?_
    | refine stp_oElem fun _ _ => ?_
    | refine stp_oPair fun _ _ => ?_
    | refine stp_oFound fun _ _ => ?_
    | refine stp_oDec fun _ _ => ?_
    | refine stp_oMeth fun _ _ => ?_
    | refine stp_oSrc fun _ _ => ?_
    | refine stp_oVal fun _ _ => ?_
    | refine stp_oEl (fun _ _ => ?_) (fun _ => ?_)
    | refine stp_vPtr fun _ _ _ => ?_
    | refine stp_vInt fun _ _ _ => ?_
    | refine stp_vNat fun _ _ _ => ?_
    | refine stp_vStr fun _ _ => ?_
    | refine stp_vAgg fun _ _ => ?_
    | refine stp_vTup fun _ _ => ?_
    | refine stp_vMap fun _ _ => ?_
    | refine stp_vBool fun _ _ => ?_
    | refine stp_vIface fun _ _ _ => ?_
    | refine stp_vFn fun _ _ _ _ => ?_
    | refine stp_vSlE (fun _ => ?_) (fun _ _ _ _ _ => ?_)
    | refine stp_vMapE (fun _ => ?_) (fun _ _ => ?_)
    | refine stp_vIfaceE (fun _ => ?_) (fun _ _ _ => ?_)
    | refine stp_vNonNil (fun _ _ _ => ?_) (fun _ _ _ => ?_) (fun _ _ _ _ => ?_)
    | refine stp_vConv (fun _ _ _ => ?_) (fun _ _ => ?_) (fun _ => ?_) (fun _ _ _ _ _ => ?_) (fun _ _ _ => ?_)
    | refine stp_vCut (fun _ _ => ?_) (fun _ => ?_) (fun _ _ _ _ _ => ?_) (fun _ _ _ => ?_)
    | refine stp_vIdx (fun _ _ _ _ _ => ?_) (fun _ _ _ => ?_)
    | refine stp_vIdxV (fun _ _ => ?_) (fun _ _ => ?_)
    | refine stp_vRange (fun _ _ => ?_) (fun _ => ?_) (fun _ _ => ?_)
    | refine stp_vLen (fun _ _ => ?_) (fun _ => ?_) (fun _ => ?_) (fun _ _ _ _ _ => ?_) (fun _ _ => ?_)
    | refine stp_vPtrE (fun _ => ?_) (fun _ _ _ => ?_)
    | refine stp_vU8 fun _ _ => ?_
    | refine stp_bnd (fun _ => ?_) (fun _ _ _ => ?_)
    | refine stp_withMap fun _ _ _ => ?_
    | refine stp_withRow fun _ _ _ _ => ?_
    | refine stp_withIter (fun _ _ _ => ?_) (fun _ _ _ _ _ => ?_)
    | refine stp_hit (fun _ => ?_) (fun _ _ _ => ?_)
    | refine stp_atMostOne (fun _ => ?_) (fun _ _ => ?_)
    | refine stp_args1 fun _ _ => ?_
    | refine stp_args2 fun _ _ _ => ?_
    | refine stp_ty1 fun _ _ _ => ?_

theorem stp_SliceOpen3 {size b o len : Nat} {lo hi mx : Option AV} : Stp s (sliceOpen3 s size b o len lo hi mx) := by
  unfold sliceOpen3
  repeat' first
    | exact stp_same
    | exact stp_new
    | exact fun h => .setNew s _ _ h
    | exact fun _ => .set s _ none (.inr rfl)
    | exact fun _ => .setL (by assumption)
    | exact (rfl : _ = _)
    | trivial
    | refine stp_chk fun _ => ?_
    | refine stp_iff (fun _ => ?_) (fun _ => ?_)
    | refine stp_oTI fun _ _ => ?_
    | refine stp_oCells fun _ _ => ?_
    | refine stp_oAV fun _ _ => ?_
    | refine stp_oSt fun _ hw => ?_
    | exact fun _ => .write (by assumption)
    | refine stp_oBlk fun _ _ => ?_
    | refine stp_oNat fun _ _ => ?_
    | refine stp_oBytes fun _ _ => ?_
    | refine stp_oKind fun _ _ => ?_
    | refine stp_oElem fun _ _ => ?_
    | refine stp_oPair fun _ _ => ?_
    | refine stp_oFound fun _ _ => ?_
    | refine stp_oDec fun _ _ => ?_
    | refine stp_oMeth fun _ _ => ?_
    | refine stp_oSrc fun _ _ => ?_
    | refine stp_oVal fun _ _ => ?_
    | refine stp_oEl (fun _ _ => ?_) (fun _ => ?_)
    | refine stp_vPtr fun _ _ _ => ?_
    | refine stp_vInt fun _ _ _ => ?_
    | refine stp_vNat fun _ _ _ => ?_
    | refine stp_vStr fun _ _ => ?_
    | refine stp_vAgg fun _ _ => ?_
    | refine stp_vTup fun _ _ => ?_
    | refine stp_vMap fun _ _ => ?_
    | refine stp_vBool fun _ _ => ?_
    | refine stp_vIface fun _ _ _ => ?_
    | refine stp_vFn fun _ _ _ _ => ?_
    | refine stp_vSlE (fun _ => ?_) (fun _ _ _ _ _ => ?_)
    | refine stp_vMapE (fun _ => ?_) (fun _ _ => ?_)
    | refine stp_vIfaceE (fun _ => ?_) (fun _ _ _ => ?_)
    | refine stp_vNonNil (fun _ _ _ => ?_) (fun _ _ _ => ?_) (fun _ _ _ _ => ?_)
    | refine stp_vConv (fun _ _ _ => ?_) (fun _ _ => ?_) (fun _ => ?_) (fun _ _ _ _ _ => ?_) (fun _ _ _ => ?_)
    | refine stp_vCut (fun _ _ => ?_) (fun _ => ?_) (fun _ _ _ _ _ => ?_) (fun _ _ _ => ?_)
    | refine stp_vIdx (fun _ _ _ _ _ => ?_) (fun _ _ _ => ?_)
    | refine stp_vIdxV (fun _ _ => ?_) (fun _ _ => ?_)
    | refine stp_vRange (fun _ _ => ?_) (fun _ => ?_) (fun _ _ => ?_)
    | refine stp_vLen (fun _ _ => ?_) (fun _ => ?_) (fun _ => ?_) (fun _ _ _ _ _ => ?_) (fun _ _ => ?_)
    | refine stp_vPtrE (fun _ => ?_) (fun _ _ _ => ?_)
    | refine stp_vU8 fun _ _ => ?_
    | refine stp_bnd (fun _ => ?_) (fun _ _ _ => ?_)
    | refine stp_withMap fun _ _ _ => ?_
    | refine stp_withRow fun _ _ _ _ => ?_
    | refine stp_withIter (fun _ _ _ => ?_) (fun _ _ _ _ _ => ?_)
    | refine stp_hit (fun _ => ?_) (fun _ _ _ => ?_)
    | refine stp_atMostOne (fun _ => ?_) (fun _ _ => ?_)
    | refine stp_args1 fun _ _ => ?_
    | refine stp_args2 fun _ _ _ => ?_
    | refine stp_ty1 fun _ _ _ => ?_

theorem stp_FieldAddr {tt : Trie TI} {t : TypeId} {x : AV} {f : Nat} : Stp s (opFieldAddr tt s t x f) := by
  unfold opFieldAddr
  repeat' first
    | exact stp_same
    | exact stp_new
    | exact fun h => .setNew s _ _ h
    | exact fun _ => .set s _ none (.inr rfl)
    | exact fun _ => .setL (by assumption)
    | exact (rfl : _ = _)
    | trivial
    | refine stp_chk fun _ => ?_
    | refine stp_iff (fun _ => ?_) (fun _ => ?_)
    | refine stp_oTI fun _ _ => ?_
    | refine stp_oCells fun _ _ => ?_
    | refine stp_oAV fun _ _ => ?_
    | refine stp_oSt fun _ hw => ?_
    | exact fun _ => .write (by assumption)
    | refine stp_oBlk fun _ _ => ?_
    | refine stp_oNat fun _ _ => ?_
    | refine stp_oBytes fun _ _ => ?_
    | refine stp_oKind fun _ _ => ?_
    | refine stp_oElem fun _ _ => ?_
    | refine stp_oPair fun _ _ => ?_
    | refine stp_oFound fun _ _ => ?_
    | refine stp_oDec fun _ _ => ?_
    | refine stp_oMeth fun _ _ => ?_
    | refine stp_oSrc fun _ _ => ?_
    | refine stp_oVal fun _ _ => ?_
    | refine stp_oEl (fun _ _ => ?_) (fun _ => ?_)
    | refine stp_vPtr fun _ _ _ => ?_
    | refine stp_vInt fun _ _ _ => ?_
    | refine stp_vNat fun _ _ _ => ?_
    | refine stp_vStr fun _ _ => ?_
    | refine stp_vAgg fun _ _ => ?_
    | refine stp_vTup fun _ _ => ?_
    | refine stp_vMap fun _ _ => ?_
    | refine stp_vBool fun _ _ => ?_
    | refine stp_vIface fun _ _ _ => ?_
    | refine stp_vFn fun _ _ _ _ => ?_
    | refine stp_vSlE (fun _ => ?_) (fun _ _ _ _ _ => ?_)
    | refine stp_vMapE (fun _ => ?_) (fun _ _ => ?_)
    | refine stp_vIfaceE (fun _ => ?_) (fun _ _ _ => ?_)
    | refine stp_vNonNil (fun _ _ _ => ?_) (fun _ _ _ => ?_) (fun _ _ _ _ => ?_)
    | refine stp_vConv (fun _ _ _ => ?_) (fun _ _ => ?_) (fun _ => ?_) (fun _ _ _ _ _ => ?_) (fun _ _ _ => ?_)
    | refine stp_vCut (fun _ _ => ?_) (fun _ => ?_) (fun _ _ _ _ _ => ?_) (fun _ _ _ => ?_)
    | refine stp_vIdx (fun _ _ _ _ _ => ?_) (fun _ _ _ => ?_)
    | refine stp_vIdxV (fun _ _ => ?_) (fun _ _ => ?_)
    | refine stp_vRange (fun _ _ => ?_) (fun _ => ?_) (fun _ _ => ?_)
    | refine stp_vLen (fun _ _ => ?_) (fun _ => ?_) (fun _ => ?_) (fun _ _ _ _ _ => ?_) (fun _ _ => ?_)
    | refine stp_vPtrE (fun _ => ?_) (fun _ _ _ => ?_)
    | refine stp_vU8 fun _ _ => ?_
    | refine stp_bnd (fun _ => ?_) (fun _ _ _ => ?_)
    | refine stp_withMap fun _ _ _ => ?_
    | refine stp_withRow fun _ _ _ _ => ?_
    | refine stp_withIter (fun _ _ _ => ?_) (fun _ _ _ _ _ => ?_)
    | refine stp_hit (fun _ => ?_) (fun _ _ _ => ?_)
    | refine stp_atMostOne (fun _ => ?_) (fun _ _ => ?_)
    | refine stp_args1 fun _ _ => ?_
    | refine stp_args2 fun _ _ _ => ?_
    | refine stp_ty1 fun _ _ _ => ?_

theorem stp_Field {tt : Trie TI} {t : TypeId} {x : AV} {f : Nat} : Stp s (opField tt s t x f) := by
  unfold opField
  repeat' first
    | exact stp_same
    | exact stp_new
    | exact fun h => .setNew s _ _ h
    | exact fun _ => .set s _ none (.inr rfl)
    | exact fun _ => .setL (by assumption)
    | exact (rfl : _ = _)
    | trivial
    | refine stp_chk fun _ => ?_
    | refine stp_iff (fun _ => ?_) (fun _ => ?_)
    | refine stp_oTI fun _ _ => ?_
    | refine stp_oCells fun _ _ => ?_
    | refine stp_oAV fun _ _ => ?_
    | refine stp_oSt fun _ hw => ?_
    | exact fun _ => .write (by assumption)
    | refine stp_oBlk fun _ _ => ?_
    | refine stp_oNat fun _ _ => ?_
    | refine stp_oBytes fun _ _ => ?_
    | refine stp_oKind fun _ _ => ?_
    | refine stp_oElem fun _ _ => ?_
    | refine stp_oPair fun _ _ => ?_
    | refine stp_oFound fun _ _ => ?_
    | refine stp_oDec fun _ _ => ?_
    | refine stp_oMeth fun _ _ => ?_
    | refine stp_oSrc fun _ _ => ?_
    | refine stp_oVal fun _ _ => ?_
    | refine stp_oEl (fun _ _ => ?_) (fun _ => ?_)
    | refine stp_vPtr fun _ _ _ => ?_
    | refine stp_vInt fun _ _ _ => ?_
    | refine stp_vNat fun _ _ _ => ?_
    | refine stp_vStr fun _ _ => ?_
    | refine stp_vAgg fun _ _ => ?_
    | refine stp_vTup fun _ _ => ?_
    | refine stp_vMap fun _ _ => ?_
    | refine stp_vBool fun _ _ => ?_
    | refine stp_vIface fun _ _ _ => ?_
    | refine stp_vFn fun _ _ _ _ => ?_
    | refine stp_vSlE (fun _ => ?_) (fun _ _ _ _ _ => ?_)
    | refine stp_vMapE (fun _ => ?_) (fun _ _ => ?_)
    | refine stp_vIfaceE (fun _ => ?_) (fun _ _ _ => ?_)
    | refine stp_vNonNil (fun _ _ _ => ?_) (fun _ _ _ => ?_) (fun _ _ _ _ => ?_)
    | refine stp_vConv (fun _ _ _ => ?_) (fun _ _ => ?_) (fun _ => ?_) (fun _ _ _ _ _ => ?_) (fun _ _ _ => ?_)
    | refine stp_vCut (fun _ _ => ?_) (fun _ => ?_) (fun _ _ _ _ _ => ?_) (fun _ _ _ => ?_)
    | refine stp_vIdx (fun _ _ _ _ _ => ?_) (fun _ _ _ => ?_)
    | refine stp_vIdxV (fun _ _ => ?_) (fun _ _ => ?_)
    | refine stp_vRange (fun _ _ => ?_) (fun _ => ?_) (fun _ _ => ?_)
    | refine stp_vLen (fun _ _ => ?_) (fun _ => ?_) (fun _ => ?_) (fun _ _ _ _ _ => ?_) (fun _ _ => ?_)
    | refine stp_vPtrE (fun _ => ?_) (fun _ _ _ => ?_)
    | refine stp_vU8 fun _ _ => ?_
    | refine stp_bnd (fun _ => ?_) (fun _ _ _ => ?_)
    | refine stp_withMap fun _ _ _ => ?_
    | refine stp_withRow fun _ _ _ _ => ?_
    | refine stp_withIter (fun _ _ _ => ?_) (fun _ _ _ _ _ => ?_)
    | refine stp_hit (fun _ => ?_) (fun _ _ _ => ?_)
    | refine stp_atMostOne (fun _ => ?_) (fun _ _ => ?_)
    | refine stp_args1 fun _ _ => ?_
    | refine stp_args2 fun _ _ _ => ?_
    | refine stp_ty1 fun _ _ _ => ?_

theorem stp_IndexAddr {tt : Trie TI} {t : TypeId} {x i : AV} : Stp s (opIndexAddr tt s t x i) := by
  unfold opIndexAddr
  repeat' first
    | exact stp_same
    | exact stp_new
    | exact fun h => .setNew s _ _ h
    | exact fun _ => .set s _ none (.inr rfl)
    | exact fun _ => .setL (by assumption)
    | exact (rfl : _ = _)
    | trivial
    | refine stp_chk fun _ => ?_
    | refine stp_iff (fun _ => ?_) (fun _ => ?_)
    | refine stp_oTI fun _ _ => ?_
    | refine stp_oCells fun _ _ => ?_
    | refine stp_oAV fun _ _ => ?_
    | refine stp_oSt fun _ hw => ?_
    | exact fun _ => .write (by assumption)
    | refine stp_oBlk fun _ _ => ?_
    | refine stp_oNat fun _ _ => ?_
    | refine stp_oBytes fun _ _ => ?_
    | refine stp_oKind fun _ _ => ?_
    | refine stp_oElem fun _ _ => ?_
    | refine stp_oPair fun _ _ => ?_
    | refine stp_oFound fun _ _ => ?_
    | refine stp_oDec fun _ _ => ?_
    | refine stp_oMeth fun _ _ => ?_
    | refine stp_oSrc fun _ _ => ?_
    | refine stp_oVal fun _ _ => ?_
    | refine stp_oEl (fun _ _ => ?_) (fun _ => ?_)
    | refine stp_vPtr fun _ _ _ => ?_
    | refine stp_vInt fun _ _ _ => ?_
    | refine stp_vNat fun _ _ _ => ?_
    | refine stp_vStr fun _ _ => ?_
    | refine stp_vAgg fun _ _ => ?_
    | refine stp_vTup fun _ _ => ?_
    | refine stp_vMap fun _ _ => ?_
    | refine stp_vBool fun _ _ => ?_
    | refine stp_vIface fun _ _ _ => ?_
    | refine stp_vFn fun _ _ _ _ => ?_
    | refine stp_vSlE (fun _ => ?_) (fun _ _ _ _ _ => ?_)
    | refine stp_vMapE (fun _ => ?_) (fun _ _ => ?_)
    | refine stp_vIfaceE (fun _ => ?_) (fun _ _ _ => ?_)
    | refine stp_vNonNil (fun _ _ _ => ?_) (fun _ _ _ => ?_) (fun _ _ _ _ => ?_)
    | refine stp_vConv (fun _ _ _ => ?_) (fun _ _ => ?_) (fun _ => ?_) (fun _ _ _ _ _ => ?_) (fun _ _ _ => ?_)
    | refine stp_vCut (fun _ _ => ?_) (fun _ => ?_) (fun _ _ _ _ _ => ?_) (fun _ _ _ => ?_)
    | refine stp_vIdx (fun _ _ _ _ _ => ?_) (fun _ _ _ => ?_)
    | refine stp_vIdxV (fun _ _ => ?_) (fun _ _ => ?_)
    | refine stp_vRange (fun _ _ => ?_) (fun _ => ?_) (fun _ _ => ?_)
    | refine stp_vLen (fun _ _ => ?_) (fun _ => ?_) (fun _ => ?_) (fun _ _ _ _ _ => ?_) (fun _ _ => ?_)
    | refine stp_vPtrE (fun _ => ?_) (fun _ _ _ => ?_)
    | refine stp_vU8 fun _ _ => ?_
    | refine stp_bnd (fun _ => ?_) (fun _ _ _ => ?_)
    | refine stp_withMap fun _ _ _ => ?_
    | refine stp_withRow fun _ _ _ _ => ?_
    | refine stp_withIter (fun _ _ _ => ?_) (fun _ _ _ _ _ => ?_)
    | refine stp_hit (fun _ => ?_) (fun _ _ _ => ?_)
    | refine stp_atMostOne (fun _ => ?_) (fun _ _ => ?_)
    | refine stp_args1 fun _ _ => ?_
    | refine stp_args2 fun _ _ _ => ?_
    | refine stp_ty1 fun _ _ _ => ?_

theorem stp_Index {tt : Trie TI} {t : TypeId} {x i : AV} : Stp s (opIndex tt s t x i) := by
  unfold opIndex
  repeat' first
    | exact stp_same
    | exact stp_new
    | exact fun h => .setNew s _ _ h
    | exact fun _ => .set s _ none (.inr rfl)
    | exact fun _ => .setL (by assumption)
    | exact (rfl : _ = _)
    | trivial
    | refine stp_chk fun _ => ?_
    | refine stp_iff (fun _ => ?_) (fun _ => ?_)
    | refine stp_oTI fun _ _ => ?_
    | refine stp_oCells fun _ _ => ?_
    | refine stp_oAV fun _ _ => ?_
    | refine stp_oSt fun _ hw => ?_
    | exact fun _ => .write (by assumption)
    | refine stp_oBlk fun _ _ => ?_
    | refine stp_oNat fun _ _ => ?_
    | refine stp_oBytes fun _ _ => ?_
    | refine stp_oKind fun _ _ => ?_
    | refine stp_oElem fun _ _ => ?_
    | refine stp_oPair fun _ _ => ?_
    | refine stp_oFound fun _ _ => ?_
    | refine stp_oDec fun _ _ => ?_
    | refine stp_oMeth fun _ _ => ?_
    | refine stp_oSrc fun _ _ => ?_
    | refine stp_oVal fun _ _ => ?_
    | refine stp_oEl (fun _ _ => ?_) (fun _ => ?_)
    | refine stp_vPtr fun _ _ _ => ?_
    | refine stp_vInt fun _ _ _ => ?_
    | refine stp_vNat fun _ _ _ => ?_
    | refine stp_vStr fun _ _ => ?_
    | refine stp_vAgg fun _ _ => ?_
    | refine stp_vTup fun _ _ => ?_
    | refine stp_vMap fun _ _ => ?_
    | refine stp_vBool fun _ _ => ?_
    | refine stp_vIface fun _ _ _ => ?_
    | refine stp_vFn fun _ _ _ _ => ?_
    | refine stp_vSlE (fun _ => ?_) (fun _ _ _ _ _ => ?_)
    | refine stp_vMapE (fun _ => ?_) (fun _ _ => ?_)
    | refine stp_vIfaceE (fun _ => ?_) (fun _ _ _ => ?_)
    | refine stp_vNonNil (fun _ _ _ => ?_) (fun _ _ _ => ?_) (fun _ _ _ _ => ?_)
    | refine stp_vConv (fun _ _ _ => ?_) (fun _ _ => ?_) (fun _ => ?_) (fun _ _ _ _ _ => ?_) (fun _ _ _ => ?_)
    | refine stp_vCut (fun _ _ => ?_) (fun _ => ?_) (fun _ _ _ _ _ => ?_) (fun _ _ _ => ?_)
    | refine stp_vIdx (fun _ _ _ _ _ => ?_) (fun _ _ _ => ?_)
    | refine stp_vIdxV (fun _ _ => ?_) (fun _ _ => ?_)
    | refine stp_vRange (fun _ _ => ?_) (fun _ => ?_) (fun _ _ => ?_)
    | refine stp_vLen (fun _ _ => ?_) (fun _ => ?_) (fun _ => ?_) (fun _ _ _ _ _ => ?_) (fun _ _ => ?_)
    | refine stp_vPtrE (fun _ => ?_) (fun _ _ _ => ?_)
    | refine stp_vU8 fun _ _ => ?_
    | refine stp_bnd (fun _ => ?_) (fun _ _ _ => ?_)
    | refine stp_withMap fun _ _ _ => ?_
    | refine stp_withRow fun _ _ _ _ => ?_
    | refine stp_withIter (fun _ _ _ => ?_) (fun _ _ _ _ _ => ?_)
    | refine stp_hit (fun _ => ?_) (fun _ _ _ => ?_)
    | refine stp_atMostOne (fun _ => ?_) (fun _ _ => ?_)
    | refine stp_args1 fun _ _ => ?_
    | refine stp_args2 fun _ _ _ => ?_
    | refine stp_ty1 fun _ _ _ => ?_

theorem stp_Lookup {tt : Trie TI} {t : TypeId} {ok : Bool} {x k : AV} : Stp s (opLookup tt s t ok x k) := by
  unfold opLookup
  repeat' first
    | exact stp_same
    | exact stp_new
    | exact fun h => .setNew s _ _ h
    | exact fun _ => .set s _ none (.inr rfl)
    | exact fun _ => .setL (by assumption)
    | exact (rfl : _ = _)
    | trivial
    | refine stp_chk fun _ => ?_
    | refine stp_iff (fun _ => ?_) (fun _ => ?_)
    | refine stp_oTI fun _ _ => ?_
    | refine stp_oCells fun _ _ => ?_
    | refine stp_oAV fun _ _ => ?_
    | refine stp_oSt fun _ hw => ?_
    | exact fun _ => .write (by assumption)
    | refine stp_oBlk fun _ _ => ?_
    | refine stp_oNat fun _ _ => ?_
    | refine stp_oBytes fun _ _ => ?_
    | refine stp_oKind fun _ _ => ?_
    | refine stp_oElem fun _ _ => ?_
    | refine stp_oPair fun _ _ => ?_
    | refine stp_oFound fun _ _ => ?_
    | refine stp_oDec fun _ _ => ?_
    | refine stp_oMeth fun _ _ => ?_
    | refine stp_oSrc fun _ _ => ?_
    | refine stp_oVal fun _ _ => ?_
    | refine stp_oEl (fun _ _ => ?_) (fun _ => ?_)
    | refine stp_vPtr fun _ _ _ => ?_
    | refine stp_vInt fun _ _ _ => ?_
    | refine stp_vNat fun _ _ _ => ?_
    | refine stp_vStr fun _ _ => ?_
    | refine stp_vAgg fun _ _ => ?_
    | refine stp_vTup fun _ _ => ?_
    | refine stp_vMap fun _ _ => ?_
    | refine stp_vBool fun _ _ => ?_
    | refine stp_vIface fun _ _ _ => ?_
    | refine stp_vFn fun _ _ _ _ => ?_
    | refine stp_vSlE (fun _ => ?_) (fun _ _ _ _ _ => ?_)
    | refine stp_vMapE (fun _ => ?_) (fun _ _ => ?_)
    | refine stp_vIfaceE (fun _ => ?_) (fun _ _ _ => ?_)
    | refine stp_vNonNil (fun _ _ _ => ?_) (fun _ _ _ => ?_) (fun _ _ _ _ => ?_)
    | refine stp_vConv (fun _ _ _ => ?_) (fun _ _ => ?_) (fun _ => ?_) (fun _ _ _ _ _ => ?_) (fun _ _ _ => ?_)
    | refine stp_vCut (fun _ _ => ?_) (fun _ => ?_) (fun _ _ _ _ _ => ?_) (fun _ _ _ => ?_)
    | refine stp_vIdx (fun _ _ _ _ _ => ?_) (fun _ _ _ => ?_)
    | refine stp_vIdxV (fun _ _ => ?_) (fun _ _ => ?_)
    | refine stp_vRange (fun _ _ => ?_) (fun _ => ?_) (fun _ _ => ?_)
    | refine stp_vLen (fun _ _ => ?_) (fun _ => ?_) (fun _ => ?_) (fun _ _ _ _ _ => ?_) (fun _ _ => ?_)
    | refine stp_vPtrE (fun _ => ?_) (fun _ _ _ => ?_)
    | refine stp_vU8 fun _ _ => ?_
    | refine stp_bnd (fun _ => ?_) (fun _ _ _ => ?_)
    | refine stp_withMap fun _ _ _ => ?_
    | refine stp_withRow fun _ _ _ _ => ?_
    | refine stp_withIter (fun _ _ _ => ?_) (fun _ _ _ _ _ => ?_)
    | refine stp_hit (fun _ => ?_) (fun _ _ _ => ?_)
    | refine stp_atMostOne (fun _ => ?_) (fun _ _ => ?_)
    | refine stp_args1 fun _ _ => ?_
    | refine stp_args2 fun _ _ _ => ?_
    | refine stp_ty1 fun _ _ _ => ?_

theorem stp_MapSet {tt : Trie TI} {t : TypeId} {m k v : AV} : Stp s (opMapSet tt s t m k v) := by
  unfold opMapSet
  repeat' first
    | exact stp_same
    | exact stp_new
    | exact fun h => .setNew s _ _ h
    | exact fun _ => .set s _ none (.inr rfl)
    | exact fun _ => .setL (by assumption)
    | exact (rfl : _ = _)
    | trivial
    | refine stp_chk fun _ => ?_
    | refine stp_iff (fun _ => ?_) (fun _ => ?_)
    | refine stp_oTI fun _ _ => ?_
    | refine stp_oCells fun _ _ => ?_
    | refine stp_oAV fun _ _ => ?_
    | refine stp_oSt fun _ hw => ?_
    | exact fun _ => .write (by assumption)
    | refine stp_oBlk fun _ _ => ?_
    | refine stp_oNat fun _ _ => ?_
    | refine stp_oBytes fun _ _ => ?_
    | refine stp_oKind fun _ _ => ?_
    | refine stp_oElem fun _ _ => ?_
    | refine stp_oPair fun _ _ => ?_
    | refine stp_oFound fun _ _ => ?_
    | refine stp_oDec fun _ _ => ?_
    | refine stp_oMeth fun _ _ => ?_
    | refine stp_oSrc fun _ _ => ?_
    | refine stp_oVal fun _ _ => ?_
    | refine stp_oEl (fun _ _ => ?_) (fun _ => ?_)
    | refine stp_vPtr fun _ _ _ => ?_
    | refine stp_vInt fun _ _ _ => ?_
    | refine stp_vNat fun _ _ _ => ?_
    | refine stp_vStr fun _ _ => ?_
    | refine stp_vAgg fun _ _ => ?_
    | refine stp_vTup fun _ _ => ?_
    | refine stp_vMap fun _ _ => ?_
    | refine stp_vBool fun _ _ => ?_
    | refine stp_vIface fun _ _ _ => ?_
    | refine stp_vFn fun _ _ _ _ => ?_
    | refine stp_vSlE (fun _ => ?_) (fun _ _ _ _ _ => ?_)
    | refine stp_vMapE (fun _ => ?_) (fun _ _ => ?_)
    | refine stp_vIfaceE (fun _ => ?_) (fun _ _ _ => ?_)
    | refine stp_vNonNil (fun _ _ _ => ?_) (fun _ _ _ => ?_) (fun _ _ _ _ => ?_)
    | refine stp_vConv (fun _ _ _ => ?_) (fun _ _ => ?_) (fun _ => ?_) (fun _ _ _ _ _ => ?_) (fun _ _ _ => ?_)
    | refine stp_vCut (fun _ _ => ?_) (fun _ => ?_) (fun _ _ _ _ _ => ?_) (fun _ _ _ => ?_)
    | refine stp_vIdx (fun _ _ _ _ _ => ?_) (fun _ _ _ => ?_)
    | refine stp_vIdxV (fun _ _ => ?_) (fun _ _ => ?_)
    | refine stp_vRange (fun _ _ => ?_) (fun _ => ?_) (fun _ _ => ?_)
    | refine stp_vLen (fun _ _ => ?_) (fun _ => ?_) (fun _ => ?_) (fun _ _ _ _ _ => ?_) (fun _ _ => ?_)
    | refine stp_vPtrE (fun _ => ?_) (fun _ _ _ => ?_)
    | refine stp_vU8 fun _ _ => ?_
    | refine stp_bnd (fun _ => ?_) (fun _ _ _ => ?_)
    | refine stp_withMap fun _ _ _ => ?_
    | refine stp_withRow fun _ _ _ _ => ?_
    | refine stp_withIter (fun _ _ _ => ?_) (fun _ _ _ _ _ => ?_)
    | refine stp_hit (fun _ => ?_) (fun _ _ _ => ?_)
    | refine stp_atMostOne (fun _ => ?_) (fun _ _ => ?_)
    | refine stp_args1 fun _ _ => ?_
    | refine stp_args2 fun _ _ _ => ?_
    | refine stp_ty1 fun _ _ _ => ?_

theorem stp_Range {tt : Trie TI} {t : TypeId} {x : AV} : Stp s (opRange tt s t x) := by
  unfold opRange
  repeat' first
    | exact stp_same
    | exact stp_new
    | exact fun h => .setNew s _ _ h
    | exact fun _ => .set s _ none (.inr rfl)
    | exact fun _ => .setL (by assumption)
    | exact (rfl : _ = _)
    | trivial
    | refine stp_chk fun _ => ?_
    | refine stp_iff (fun _ => ?_) (fun _ => ?_)
    | refine stp_oTI fun _ _ => ?_
    | refine stp_oCells fun _ _ => ?_
    | refine stp_oAV fun _ _ => ?_
    | refine stp_oSt fun _ hw => ?_
    | exact fun _ => .write (by assumption)
    | refine stp_oBlk fun _ _ => ?_
    | refine stp_oNat fun _ _ => ?_
    | refine stp_oBytes fun _ _ => ?_
    | refine stp_oKind fun _ _ => ?_
    | refine stp_oElem fun _ _ => ?_
    | refine stp_oPair fun _ _ => ?_
    | refine stp_oFound fun _ _ => ?_
    | refine stp_oDec fun _ _ => ?_
    | refine stp_oMeth fun _ _ => ?_
    | refine stp_oSrc fun _ _ => ?_
    | refine stp_oVal fun _ _ => ?_
    | refine stp_oEl (fun _ _ => ?_) (fun _ => ?_)
    | refine stp_vPtr fun _ _ _ => ?_
    | refine stp_vInt fun _ _ _ => ?_
    | refine stp_vNat fun _ _ _ => ?_
    | refine stp_vStr fun _ _ => ?_
    | refine stp_vAgg fun _ _ => ?_
    | refine stp_vTup fun _ _ => ?_
    | refine stp_vMap fun _ _ => ?_
    | refine stp_vBool fun _ _ => ?_
    | refine stp_vIface fun _ _ _ => ?_
    | refine stp_vFn fun _ _ _ _ => ?_
    | refine stp_vSlE (fun _ => ?_) (fun _ _ _ _ _ => ?_)
    | refine stp_vMapE (fun _ => ?_) (fun _ _ => ?_)
    | refine stp_vIfaceE (fun _ => ?_) (fun _ _ _ => ?_)
    | refine stp_vNonNil (fun _ _ _ => ?_) (fun _ _ _ => ?_) (fun _ _ _ _ => ?_)
    | refine stp_vConv (fun _ _ _ => ?_) (fun _ _ => ?_) (fun _ => ?_) (fun _ _ _ _ _ => ?_) (fun _ _ _ => ?_)
    | refine stp_vCut (fun _ _ => ?_) (fun _ => ?_) (fun _ _ _ _ _ => ?_) (fun _ _ _ => ?_)
    | refine stp_vIdx (fun _ _ _ _ _ => ?_) (fun _ _ _ => ?_)
    | refine stp_vIdxV (fun _ _ => ?_) (fun _ _ => ?_)
    | refine stp_vRange (fun _ _ => ?_) (fun _ => ?_) (fun _ _ => ?_)
    | refine stp_vLen (fun _ _ => ?_) (fun _ => ?_) (fun _ => ?_) (fun _ _ _ _ _ => ?_) (fun _ _ => ?_)
    | refine stp_vPtrE (fun _ => ?_) (fun _ _ _ => ?_)
    | refine stp_vU8 fun _ _ => ?_
    | refine stp_bnd (fun _ => ?_) (fun _ _ _ => ?_)
    | refine stp_withMap fun _ _ _ => ?_
    | refine stp_withRow fun _ _ _ _ => ?_
    | refine stp_withIter (fun _ _ _ => ?_) (fun _ _ _ _ _ => ?_)
    | refine stp_hit (fun _ => ?_) (fun _ _ _ => ?_)
    | refine stp_atMostOne (fun _ => ?_) (fun _ _ => ?_)
    | refine stp_args1 fun _ _ => ?_
    | refine stp_args2 fun _ _ _ => ?_
    | refine stp_ty1 fun _ _ _ => ?_

theorem stp_NextStr {b : Nat} {l : List Nat} {pos : Nat} {y : ABlk} (_ : hget s.h b = some y) : Stp s (nextStr s b l pos) := by
  unfold nextStr
  repeat' first
    | exact stp_same
    | exact stp_new
    | exact fun h => .setNew s _ _ h
    | exact fun _ => .set s _ none (.inr rfl)
    | exact fun _ => .setL (by assumption)
    | exact (rfl : _ = _)
    | trivial
    | refine stp_chk fun _ => ?_
    | refine stp_iff (fun _ => ?_) (fun _ => ?_)
    | refine stp_oTI fun _ _ => ?_
    | refine stp_oCells fun _ _ => ?_
    | refine stp_oAV fun _ _ => ?_
    | refine stp_oSt fun _ hw => ?_
    | exact fun _ => .write (by assumption)
    | refine stp_oBlk fun _ _ => ?_
    | refine stp_oNat fun _ _ => ?_
    | refine stp_oBytes fun _ _ => ?_
    | refine stp_oKind fun _ _ => ?_
    | refine stp_oElem fun _ _ => ?_
    | refine stp_oPair fun _ _ => ?_
    | refine stp_oFound fun _ _ => ?_
    | refine stp_oDec fun _ _ => ?_
    | refine stp_oMeth fun _ _ => ?_
    | refine stp_oSrc fun _ _ => ?_
    | refine stp_oVal fun _ _ => ?_
    | refine stp_oEl (fun _ _ => ?_) (fun _ => ?_)
    | refine stp_vPtr fun _ _ _ => ?_
    | refine stp_vInt fun _ _ _ => ?_
    | refine stp_vNat fun _ _ _ => ?_
    | refine stp_vStr fun _ _ => ?_
    | refine stp_vAgg fun _ _ => ?_
    | refine stp_vTup fun _ _ => ?_
    | refine stp_vMap fun _ _ => ?_
    | refine stp_vBool fun _ _ => ?_
    | refine stp_vIface fun _ _ _ => ?_
    | refine stp_vFn fun _ _ _ _ => ?_
    | refine stp_vSlE (fun _ => ?_) (fun _ _ _ _ _ => ?_)
    | refine stp_vMapE (fun _ => ?_) (fun _ _ => ?_)
    | refine stp_vIfaceE (fun _ => ?_) (fun _ _ _ => ?_)
    | refine stp_vNonNil (fun _ _ _ => ?_) (fun _ _ _ => ?_) (fun _ _ _ _ => ?_)
    | refine stp_vConv (fun _ _ _ => ?_) (fun _ _ => ?_) (fun _ => ?_) (fun _ _ _ _ _ => ?_) (fun _ _ _ => ?_)
    | refine stp_vCut (fun _ _ => ?_) (fun _ => ?_) (fun _ _ _ _ _ => ?_) (fun _ _ _ => ?_)
    | refine stp_vIdx (fun _ _ _ _ _ => ?_) (fun _ _ _ => ?_)
    | refine stp_vIdxV (fun _ _ => ?_) (fun _ _ => ?_)
    | refine stp_vRange (fun _ _ => ?_) (fun _ => ?_) (fun _ _ => ?_)
    | refine stp_vLen (fun _ _ => ?_) (fun _ => ?_) (fun _ => ?_) (fun _ _ _ _ _ => ?_) (fun _ _ => ?_)
    | refine stp_vPtrE (fun _ => ?_) (fun _ _ _ => ?_)
    | refine stp_vU8 fun _ _ => ?_
    | refine stp_bnd (fun _ => ?_) (fun _ _ _ => ?_)
    | refine stp_withMap fun _ _ _ => ?_
    | refine stp_withRow fun _ _ _ _ => ?_
    | refine stp_withIter (fun _ _ _ => ?_) (fun _ _ _ _ _ => ?_)
    | refine stp_hit (fun _ => ?_) (fun _ _ _ => ?_)
    | refine stp_atMostOne (fun _ => ?_) (fun _ _ => ?_)
    | refine stp_args1 fun _ _ => ?_
    | refine stp_args2 fun _ _ _ => ?_
    | refine stp_ty1 fun _ _ _ => ?_

theorem stp_NextMap {b m since : Nat} {seen : List Nat} {last : Nat} {y : ABlk} (_ : hget s.h b = some y) : Stp s (nextMap s b m since seen last) := by
  unfold nextMap
  repeat' first
    | exact stp_same
    | exact stp_new
    | exact fun h => .setNew s _ _ h
    | exact fun _ => .set s _ none (.inr rfl)
    | exact fun _ => .setL (by assumption)
    | exact (rfl : _ = _)
    | trivial
    | refine stp_chk fun _ => ?_
    | refine stp_iff (fun _ => ?_) (fun _ => ?_)
    | refine stp_oTI fun _ _ => ?_
    | refine stp_oCells fun _ _ => ?_
    | refine stp_oAV fun _ _ => ?_
    | refine stp_oSt fun _ hw => ?_
    | exact fun _ => .write (by assumption)
    | refine stp_oBlk fun _ _ => ?_
    | refine stp_oNat fun _ _ => ?_
    | refine stp_oBytes fun _ _ => ?_
    | refine stp_oKind fun _ _ => ?_
    | refine stp_oElem fun _ _ => ?_
    | refine stp_oPair fun _ _ => ?_
    | refine stp_oFound fun _ _ => ?_
    | refine stp_oDec fun _ _ => ?_
    | refine stp_oMeth fun _ _ => ?_
    | refine stp_oSrc fun _ _ => ?_
    | refine stp_oVal fun _ _ => ?_
    | refine stp_oEl (fun _ _ => ?_) (fun _ => ?_)
    | refine stp_vPtr fun _ _ _ => ?_
    | refine stp_vInt fun _ _ _ => ?_
    | refine stp_vNat fun _ _ _ => ?_
    | refine stp_vStr fun _ _ => ?_
    | refine stp_vAgg fun _ _ => ?_
    | refine stp_vTup fun _ _ => ?_
    | refine stp_vMap fun _ _ => ?_
    | refine stp_vBool fun _ _ => ?_
    | refine stp_vIface fun _ _ _ => ?_
    | refine stp_vFn fun _ _ _ _ => ?_
    | refine stp_vSlE (fun _ => ?_) (fun _ _ _ _ _ => ?_)
    | refine stp_vMapE (fun _ => ?_) (fun _ _ => ?_)
    | refine stp_vIfaceE (fun _ => ?_) (fun _ _ _ => ?_)
    | refine stp_vNonNil (fun _ _ _ => ?_) (fun _ _ _ => ?_) (fun _ _ _ _ => ?_)
    | refine stp_vConv (fun _ _ _ => ?_) (fun _ _ => ?_) (fun _ => ?_) (fun _ _ _ _ _ => ?_) (fun _ _ _ => ?_)
    | refine stp_vCut (fun _ _ => ?_) (fun _ => ?_) (fun _ _ _ _ _ => ?_) (fun _ _ _ => ?_)
    | refine stp_vIdx (fun _ _ _ _ _ => ?_) (fun _ _ _ => ?_)
    | refine stp_vIdxV (fun _ _ => ?_) (fun _ _ => ?_)
    | refine stp_vRange (fun _ _ => ?_) (fun _ => ?_) (fun _ _ => ?_)
    | refine stp_vLen (fun _ _ => ?_) (fun _ => ?_) (fun _ => ?_) (fun _ _ _ _ _ => ?_) (fun _ _ => ?_)
    | refine stp_vPtrE (fun _ => ?_) (fun _ _ _ => ?_)
    | refine stp_vU8 fun _ _ => ?_
    | refine stp_bnd (fun _ => ?_) (fun _ _ _ => ?_)
    | refine stp_withMap fun _ _ _ => ?_
    | refine stp_withRow fun _ _ _ _ => ?_
    | refine stp_withIter (fun _ _ _ => ?_) (fun _ _ _ _ _ => ?_)
    | refine stp_hit (fun _ => ?_) (fun _ _ _ => ?_)
    | refine stp_atMostOne (fun _ => ?_) (fun _ _ => ?_)
    | refine stp_args1 fun _ _ => ?_
    | refine stp_args2 fun _ _ _ => ?_
    | refine stp_ty1 fun _ _ _ => ?_

theorem stp_Assert {tt : Trie TI} {t : TypeId} {ok : Bool} {x : AV} : Stp s (opAssert tt s t ok x) := by
  unfold opAssert
  repeat' first
    | exact stp_same
    | exact stp_new
    | exact fun h => .setNew s _ _ h
    | exact fun _ => .set s _ none (.inr rfl)
    | exact fun _ => .setL (by assumption)
    | exact (rfl : _ = _)
    | trivial
    | refine stp_chk fun _ => ?_
    | refine stp_iff (fun _ => ?_) (fun _ => ?_)
    | refine stp_oTI fun _ _ => ?_
    | refine stp_oCells fun _ _ => ?_
    | refine stp_oAV fun _ _ => ?_
    | refine stp_oSt fun _ hw => ?_
    | exact fun _ => .write (by assumption)
    | refine stp_oBlk fun _ _ => ?_
    | refine stp_oNat fun _ _ => ?_
    | refine stp_oBytes fun _ _ => ?_
    | refine stp_oKind fun _ _ => ?_
    | refine stp_oElem fun _ _ => ?_
    | refine stp_oPair fun _ _ => ?_
    | refine stp_oFound fun _ _ => ?_
    | refine stp_oDec fun _ _ => ?_
    | refine stp_oMeth fun _ _ => ?_
    | refine stp_oSrc fun _ _ => ?_
    | refine stp_oVal fun _ _ => ?_
    | refine stp_oEl (fun _ _ => ?_) (fun _ => ?_)
    | refine stp_vPtr fun _ _ _ => ?_
    | refine stp_vInt fun _ _ _ => ?_
    | refine stp_vNat fun _ _ _ => ?_
    | refine stp_vStr fun _ _ => ?_
    | refine stp_vAgg fun _ _ => ?_
    | refine stp_vTup fun _ _ => ?_
    | refine stp_vMap fun _ _ => ?_
    | refine stp_vBool fun _ _ => ?_
    | refine stp_vIface fun _ _ _ => ?_
    | refine stp_vFn fun _ _ _ _ => ?_
    | refine stp_vSlE (fun _ => ?_) (fun _ _ _ _ _ => ?_)
    | refine stp_vMapE (fun _ => ?_) (fun _ _ => ?_)
    | refine stp_vIfaceE (fun _ => ?_) (fun _ _ _ => ?_)
    | refine stp_vNonNil (fun _ _ _ => ?_) (fun _ _ _ => ?_) (fun _ _ _ _ => ?_)
    | refine stp_vConv (fun _ _ _ => ?_) (fun _ _ => ?_) (fun _ => ?_) (fun _ _ _ _ _ => ?_) (fun _ _ _ => ?_)
    | refine stp_vCut (fun _ _ => ?_) (fun _ => ?_) (fun _ _ _ _ _ => ?_) (fun _ _ _ => ?_)
    | refine stp_vIdx (fun _ _ _ _ _ => ?_) (fun _ _ _ => ?_)
    | refine stp_vIdxV (fun _ _ => ?_) (fun _ _ => ?_)
    | refine stp_vRange (fun _ _ => ?_) (fun _ => ?_) (fun _ _ => ?_)
    | refine stp_vLen (fun _ _ => ?_) (fun _ => ?_) (fun _ => ?_) (fun _ _ _ _ _ => ?_) (fun _ _ => ?_)
    | refine stp_vPtrE (fun _ => ?_) (fun _ _ _ => ?_)
    | refine stp_vU8 fun _ _ => ?_
    | refine stp_bnd (fun _ => ?_) (fun _ _ _ => ?_)
    | refine stp_withMap fun _ _ _ => ?_
    | refine stp_withRow fun _ _ _ _ => ?_
    | refine stp_withIter (fun _ _ _ => ?_) (fun _ _ _ _ _ => ?_)
    | refine stp_hit (fun _ => ?_) (fun _ _ _ => ?_)
    | refine stp_atMostOne (fun _ => ?_) (fun _ _ => ?_)
    | refine stp_args1 fun _ _ => ?_
    | refine stp_args2 fun _ _ _ => ?_
    | refine stp_ty1 fun _ _ _ => ?_

theorem stp_Extract {i : Nat} {x : AV} : Stp s (opExtract s i x) := by
  unfold opExtract
  repeat' first
    | exact stp_same
    | exact stp_new
    | exact fun h => .setNew s _ _ h
    | exact fun _ => .set s _ none (.inr rfl)
    | exact fun _ => .setL (by assumption)
    | exact (rfl : _ = _)
    | trivial
    | refine stp_chk fun _ => ?_
    | refine stp_iff (fun _ => ?_) (fun _ => ?_)
    | refine stp_oTI fun _ _ => ?_
    | refine stp_oCells fun _ _ => ?_
    | refine stp_oAV fun _ _ => ?_
    | refine stp_oSt fun _ hw => ?_
    | exact fun _ => .write (by assumption)
    | refine stp_oBlk fun _ _ => ?_
    | refine stp_oNat fun _ _ => ?_
    | refine stp_oBytes fun _ _ => ?_
    | refine stp_oKind fun _ _ => ?_
    | refine stp_oElem fun _ _ => ?_
    | refine stp_oPair fun _ _ => ?_
    | refine stp_oFound fun _ _ => ?_
    | refine stp_oDec fun _ _ => ?_
    | refine stp_oMeth fun _ _ => ?_
    | refine stp_oSrc fun _ _ => ?_
    | refine stp_oVal fun _ _ => ?_
    | refine stp_oEl (fun _ _ => ?_) (fun _ => ?_)
    | refine stp_vPtr fun _ _ _ => ?_
    | refine stp_vInt fun _ _ _ => ?_
    | refine stp_vNat fun _ _ _ => ?_
    | refine stp_vStr fun _ _ => ?_
    | refine stp_vAgg fun _ _ => ?_
    | refine stp_vTup fun _ _ => ?_
    | refine stp_vMap fun _ _ => ?_
    | refine stp_vBool fun _ _ => ?_
    | refine stp_vIface fun _ _ _ => ?_
    | refine stp_vFn fun _ _ _ _ => ?_
    | refine stp_vSlE (fun _ => ?_) (fun _ _ _ _ _ => ?_)
    | refine stp_vMapE (fun _ => ?_) (fun _ _ => ?_)
    | refine stp_vIfaceE (fun _ => ?_) (fun _ _ _ => ?_)
    | refine stp_vNonNil (fun _ _ _ => ?_) (fun _ _ _ => ?_) (fun _ _ _ _ => ?_)
    | refine stp_vConv (fun _ _ _ => ?_) (fun _ _ => ?_) (fun _ => ?_) (fun _ _ _ _ _ => ?_) (fun _ _ _ => ?_)
    | refine stp_vCut (fun _ _ => ?_) (fun _ => ?_) (fun _ _ _ _ _ => ?_) (fun _ _ _ => ?_)
    | refine stp_vIdx (fun _ _ _ _ _ => ?_) (fun _ _ _ => ?_)
    | refine stp_vIdxV (fun _ _ => ?_) (fun _ _ => ?_)
    | refine stp_vRange (fun _ _ => ?_) (fun _ => ?_) (fun _ _ => ?_)
    | refine stp_vLen (fun _ _ => ?_) (fun _ => ?_) (fun _ => ?_) (fun _ _ _ _ _ => ?_) (fun _ _ => ?_)
    | refine stp_vPtrE (fun _ => ?_) (fun _ _ _ => ?_)
    | refine stp_vU8 fun _ _ => ?_
    | refine stp_bnd (fun _ => ?_) (fun _ _ _ => ?_)
    | refine stp_withMap fun _ _ _ => ?_
    | refine stp_withRow fun _ _ _ _ => ?_
    | refine stp_withIter (fun _ _ _ => ?_) (fun _ _ _ _ _ => ?_)
    | refine stp_hit (fun _ => ?_) (fun _ _ _ => ?_)
    | refine stp_atMostOne (fun _ => ?_) (fun _ _ => ?_)
    | refine stp_args1 fun _ _ => ?_
    | refine stp_args2 fun _ _ _ => ?_
    | refine stp_ty1 fun _ _ _ => ?_

theorem stp_AppendNil {e : TypeId} {te : TI} {n : Nat} {y : AV} : Stp s (appendNil s e te n y) := by
  unfold appendNil freshGrow
  repeat' first
    | exact stp_same
    | exact stp_new
    | exact fun h => .setNew s _ _ h
    | exact fun _ => .set s _ none (.inr rfl)
    | exact fun _ => .setL (by assumption)
    | exact (rfl : _ = _)
    | trivial
    | refine stp_chk fun _ => ?_
    | refine stp_iff (fun _ => ?_) (fun _ => ?_)
    | refine stp_oTI fun _ _ => ?_
    | refine stp_oCells fun _ _ => ?_
    | refine stp_oAV fun _ _ => ?_
    | refine stp_oSt fun _ hw => ?_
    | exact fun _ => .write (by assumption)
    | refine stp_oBlk fun _ _ => ?_
    | refine stp_oNat fun _ _ => ?_
    | refine stp_oBytes fun _ _ => ?_
    | refine stp_oKind fun _ _ => ?_
    | refine stp_oElem fun _ _ => ?_
    | refine stp_oPair fun _ _ => ?_
    | refine stp_oFound fun _ _ => ?_
    | refine stp_oDec fun _ _ => ?_
    | refine stp_oMeth fun _ _ => ?_
    | refine stp_oSrc fun _ _ => ?_
    | refine stp_oVal fun _ _ => ?_
    | refine stp_oEl (fun _ _ => ?_) (fun _ => ?_)
    | refine stp_vPtr fun _ _ _ => ?_
    | refine stp_vInt fun _ _ _ => ?_
    | refine stp_vNat fun _ _ _ => ?_
    | refine stp_vStr fun _ _ => ?_
    | refine stp_vAgg fun _ _ => ?_
    | refine stp_vTup fun _ _ => ?_
    | refine stp_vMap fun _ _ => ?_
    | refine stp_vBool fun _ _ => ?_
    | refine stp_vIface fun _ _ _ => ?_
    | refine stp_vFn fun _ _ _ _ => ?_
    | refine stp_vSlE (fun _ => ?_) (fun _ _ _ _ _ => ?_)
    | refine stp_vMapE (fun _ => ?_) (fun _ _ => ?_)
    | refine stp_vIfaceE (fun _ => ?_) (fun _ _ _ => ?_)
    | refine stp_vNonNil (fun _ _ _ => ?_) (fun _ _ _ => ?_) (fun _ _ _ _ => ?_)
    | refine stp_vConv (fun _ _ _ => ?_) (fun _ _ => ?_) (fun _ => ?_) (fun _ _ _ _ _ => ?_) (fun _ _ _ => ?_)
    | refine stp_vCut (fun _ _ => ?_) (fun _ => ?_) (fun _ _ _ _ _ => ?_) (fun _ _ _ => ?_)
    | refine stp_vIdx (fun _ _ _ _ _ => ?_) (fun _ _ _ => ?_)
    | refine stp_vIdxV (fun _ _ => ?_) (fun _ _ => ?_)
    | refine stp_vRange (fun _ _ => ?_) (fun _ => ?_) (fun _ _ => ?_)
    | refine stp_vLen (fun _ _ => ?_) (fun _ => ?_) (fun _ => ?_) (fun _ _ _ _ _ => ?_) (fun _ _ => ?_)
    | refine stp_vPtrE (fun _ => ?_) (fun _ _ _ => ?_)
    | refine stp_vU8 fun _ _ => ?_
    | refine stp_bnd (fun _ => ?_) (fun _ _ _ => ?_)
    | refine stp_withMap fun _ _ _ => ?_
    | refine stp_withRow fun _ _ _ _ => ?_
    | refine stp_withIter (fun _ _ _ => ?_) (fun _ _ _ _ _ => ?_)
    | refine stp_hit (fun _ => ?_) (fun _ _ _ => ?_)
    | refine stp_atMostOne (fun _ => ?_) (fun _ _ => ?_)
    | refine stp_args1 fun _ _ => ?_
    | refine stp_args2 fun _ _ _ => ?_
    | refine stp_ty1 fun _ _ _ => ?_

theorem stp_AppendKnown {e : TypeId} {size b o len c n : Nat} {new : List AV} {rd : List Nat} : Stp s (appendKnown s e size b o len c n new rd) := by
  unfold appendKnown freshGrow
  repeat' first
    | exact stp_same
    | exact stp_new
    | exact fun h => .setNew s _ _ h
    | exact fun _ => .set s _ none (.inr rfl)
    | exact fun _ => .setL (by assumption)
    | exact (rfl : _ = _)
    | trivial
    | refine stp_chk fun _ => ?_
    | refine stp_iff (fun _ => ?_) (fun _ => ?_)
    | refine stp_oTI fun _ _ => ?_
    | refine stp_oCells fun _ _ => ?_
    | refine stp_oAV fun _ _ => ?_
    | refine stp_oSt fun _ hw => ?_
    | exact fun _ => .write (by assumption)
    | refine stp_oBlk fun _ _ => ?_
    | refine stp_oNat fun _ _ => ?_
    | refine stp_oBytes fun _ _ => ?_
    | refine stp_oKind fun _ _ => ?_
    | refine stp_oElem fun _ _ => ?_
    | refine stp_oPair fun _ _ => ?_
    | refine stp_oFound fun _ _ => ?_
    | refine stp_oDec fun _ _ => ?_
    | refine stp_oMeth fun _ _ => ?_
    | refine stp_oSrc fun _ _ => ?_
    | refine stp_oVal fun _ _ => ?_
    | refine stp_oEl (fun _ _ => ?_) (fun _ => ?_)
    | refine stp_vPtr fun _ _ _ => ?_
    | refine stp_vInt fun _ _ _ => ?_
    | refine stp_vNat fun _ _ _ => ?_
    | refine stp_vStr fun _ _ => ?_
    | refine stp_vAgg fun _ _ => ?_
    | refine stp_vTup fun _ _ => ?_
    | refine stp_vMap fun _ _ => ?_
    | refine stp_vBool fun _ _ => ?_
    | refine stp_vIface fun _ _ _ => ?_
    | refine stp_vFn fun _ _ _ _ => ?_
    | refine stp_vSlE (fun _ => ?_) (fun _ _ _ _ _ => ?_)
    | refine stp_vMapE (fun _ => ?_) (fun _ _ => ?_)
    | refine stp_vIfaceE (fun _ => ?_) (fun _ _ _ => ?_)
    | refine stp_vNonNil (fun _ _ _ => ?_) (fun _ _ _ => ?_) (fun _ _ _ _ => ?_)
    | refine stp_vConv (fun _ _ _ => ?_) (fun _ _ => ?_) (fun _ => ?_) (fun _ _ _ _ _ => ?_) (fun _ _ _ => ?_)
    | refine stp_vCut (fun _ _ => ?_) (fun _ => ?_) (fun _ _ _ _ _ => ?_) (fun _ _ _ => ?_)
    | refine stp_vIdx (fun _ _ _ _ _ => ?_) (fun _ _ _ => ?_)
    | refine stp_vIdxV (fun _ _ => ?_) (fun _ _ => ?_)
    | refine stp_vRange (fun _ _ => ?_) (fun _ => ?_) (fun _ _ => ?_)
    | refine stp_vLen (fun _ _ => ?_) (fun _ => ?_) (fun _ => ?_) (fun _ _ _ _ _ => ?_) (fun _ _ => ?_)
    | refine stp_vPtrE (fun _ => ?_) (fun _ _ _ => ?_)
    | refine stp_vU8 fun _ _ => ?_
    | refine stp_bnd (fun _ => ?_) (fun _ _ _ => ?_)
    | refine stp_withMap fun _ _ _ => ?_
    | refine stp_withRow fun _ _ _ _ => ?_
    | refine stp_withIter (fun _ _ _ => ?_) (fun _ _ _ _ _ => ?_)
    | refine stp_hit (fun _ => ?_) (fun _ _ _ => ?_)
    | refine stp_atMostOne (fun _ => ?_) (fun _ _ => ?_)
    | refine stp_args1 fun _ _ => ?_
    | refine stp_args2 fun _ _ _ => ?_
    | refine stp_ty1 fun _ _ _ => ?_

theorem stp_AppendOpen {e : TypeId} {size b o len n : Nat} {new : List AV} {rd : List Nat} : Stp s (appendOpen s e size b o len n new rd) := by
  unfold appendOpen freshGrow
  repeat' first
    | exact stp_same
    | exact stp_new
    | exact fun h => .setNew s _ _ h
    | exact fun _ => .set s _ none (.inr rfl)
    | exact fun _ => .setL (by assumption)
    | exact (rfl : _ = _)
    | trivial
    | refine stp_chk fun _ => ?_
    | refine stp_iff (fun _ => ?_) (fun _ => ?_)
    | refine stp_oTI fun _ _ => ?_
    | refine stp_oCells fun _ _ => ?_
    | refine stp_oAV fun _ _ => ?_
    | refine stp_oSt fun _ hw => ?_
    | exact fun _ => .write (by assumption)
    | refine stp_oBlk fun _ _ => ?_
    | refine stp_oNat fun _ _ => ?_
    | refine stp_oBytes fun _ _ => ?_
    | refine stp_oKind fun _ _ => ?_
    | refine stp_oElem fun _ _ => ?_
    | refine stp_oPair fun _ _ => ?_
    | refine stp_oFound fun _ _ => ?_
    | refine stp_oDec fun _ _ => ?_
    | refine stp_oMeth fun _ _ => ?_
    | refine stp_oSrc fun _ _ => ?_
    | refine stp_oVal fun _ _ => ?_
    | refine stp_oEl (fun _ _ => ?_) (fun _ => ?_)
    | refine stp_vPtr fun _ _ _ => ?_
    | refine stp_vInt fun _ _ _ => ?_
    | refine stp_vNat fun _ _ _ => ?_
    | refine stp_vStr fun _ _ => ?_
    | refine stp_vAgg fun _ _ => ?_
    | refine stp_vTup fun _ _ => ?_
    | refine stp_vMap fun _ _ => ?_
    | refine stp_vBool fun _ _ => ?_
    | refine stp_vIface fun _ _ _ => ?_
    | refine stp_vFn fun _ _ _ _ => ?_
    | refine stp_vSlE (fun _ => ?_) (fun _ _ _ _ _ => ?_)
    | refine stp_vMapE (fun _ => ?_) (fun _ _ => ?_)
    | refine stp_vIfaceE (fun _ => ?_) (fun _ _ _ => ?_)
    | refine stp_vNonNil (fun _ _ _ => ?_) (fun _ _ _ => ?_) (fun _ _ _ _ => ?_)
    | refine stp_vConv (fun _ _ _ => ?_) (fun _ _ => ?_) (fun _ => ?_) (fun _ _ _ _ _ => ?_) (fun _ _ _ => ?_)
    | refine stp_vCut (fun _ _ => ?_) (fun _ => ?_) (fun _ _ _ _ _ => ?_) (fun _ _ _ => ?_)
    | refine stp_vIdx (fun _ _ _ _ _ => ?_) (fun _ _ _ => ?_)
    | refine stp_vIdxV (fun _ _ => ?_) (fun _ _ => ?_)
    | refine stp_vRange (fun _ _ => ?_) (fun _ => ?_) (fun _ _ => ?_)
    | refine stp_vLen (fun _ _ => ?_) (fun _ => ?_) (fun _ => ?_) (fun _ _ _ _ _ => ?_) (fun _ _ => ?_)
    | refine stp_vPtrE (fun _ => ?_) (fun _ _ _ => ?_)
    | refine stp_vU8 fun _ _ => ?_
    | refine stp_bnd (fun _ => ?_) (fun _ _ _ => ?_)
    | refine stp_withMap fun _ _ _ => ?_
    | refine stp_withRow fun _ _ _ _ => ?_
    | refine stp_withIter (fun _ _ _ => ?_) (fun _ _ _ _ _ => ?_)
    | refine stp_hit (fun _ => ?_) (fun _ _ _ => ?_)
    | refine stp_atMostOne (fun _ => ?_) (fun _ _ => ?_)
    | refine stp_args1 fun _ _ => ?_
    | refine stp_args2 fun _ _ _ => ?_
    | refine stp_ty1 fun _ _ _ => ?_

theorem stp_CopyTo {size b o n : Nat} {y : AV} : Stp s (copyTo s size b o n y) := by
  unfold copyTo
  repeat' first
    | exact stp_same
    | exact stp_new
    | exact fun h => .setNew s _ _ h
    | exact fun _ => .set s _ none (.inr rfl)
    | exact fun _ => .setL (by assumption)
    | exact (rfl : _ = _)
    | trivial
    | refine stp_chk fun _ => ?_
    | refine stp_iff (fun _ => ?_) (fun _ => ?_)
    | refine stp_oTI fun _ _ => ?_
    | refine stp_oCells fun _ _ => ?_
    | refine stp_oAV fun _ _ => ?_
    | refine stp_oSt fun _ hw => ?_
    | exact fun _ => .write (by assumption)
    | refine stp_oBlk fun _ _ => ?_
    | refine stp_oNat fun _ _ => ?_
    | refine stp_oBytes fun _ _ => ?_
    | refine stp_oKind fun _ _ => ?_
    | refine stp_oElem fun _ _ => ?_
    | refine stp_oPair fun _ _ => ?_
    | refine stp_oFound fun _ _ => ?_
    | refine stp_oDec fun _ _ => ?_
    | refine stp_oMeth fun _ _ => ?_
    | refine stp_oSrc fun _ _ => ?_
    | refine stp_oVal fun _ _ => ?_
    | refine stp_oEl (fun _ _ => ?_) (fun _ => ?_)
    | refine stp_vPtr fun _ _ _ => ?_
    | refine stp_vInt fun _ _ _ => ?_
    | refine stp_vNat fun _ _ _ => ?_
    | refine stp_vStr fun _ _ => ?_
    | refine stp_vAgg fun _ _ => ?_
    | refine stp_vTup fun _ _ => ?_
    | refine stp_vMap fun _ _ => ?_
    | refine stp_vBool fun _ _ => ?_
    | refine stp_vIface fun _ _ _ => ?_
    | refine stp_vFn fun _ _ _ _ => ?_
    | refine stp_vSlE (fun _ => ?_) (fun _ _ _ _ _ => ?_)
    | refine stp_vMapE (fun _ => ?_) (fun _ _ => ?_)
    | refine stp_vIfaceE (fun _ => ?_) (fun _ _ _ => ?_)
    | refine stp_vNonNil (fun _ _ _ => ?_) (fun _ _ _ => ?_) (fun _ _ _ _ => ?_)
    | refine stp_vConv (fun _ _ _ => ?_) (fun _ _ => ?_) (fun _ => ?_) (fun _ _ _ _ _ => ?_) (fun _ _ _ => ?_)
    | refine stp_vCut (fun _ _ => ?_) (fun _ => ?_) (fun _ _ _ _ _ => ?_) (fun _ _ _ => ?_)
    | refine stp_vIdx (fun _ _ _ _ _ => ?_) (fun _ _ _ => ?_)
    | refine stp_vIdxV (fun _ _ => ?_) (fun _ _ => ?_)
    | refine stp_vRange (fun _ _ => ?_) (fun _ => ?_) (fun _ _ => ?_)
    | refine stp_vLen (fun _ _ => ?_) (fun _ => ?_) (fun _ => ?_) (fun _ _ _ _ _ => ?_) (fun _ _ => ?_)
    | refine stp_vPtrE (fun _ => ?_) (fun _ _ _ => ?_)
    | refine stp_vU8 fun _ _ => ?_
    | refine stp_bnd (fun _ => ?_) (fun _ _ _ => ?_)
    | refine stp_withMap fun _ _ _ => ?_
    | refine stp_withRow fun _ _ _ _ => ?_
    | refine stp_withIter (fun _ _ _ => ?_) (fun _ _ _ _ _ => ?_)
    | refine stp_hit (fun _ => ?_) (fun _ _ _ => ?_)
    | refine stp_atMostOne (fun _ => ?_) (fun _ _ => ?_)
    | refine stp_args1 fun _ _ => ?_
    | refine stp_args2 fun _ _ _ => ?_
    | refine stp_ty1 fun _ _ _ => ?_

theorem stp_Len {tt : Trie TI} {t : TypeId} {x : AV} : Stp s (opLen tt s t x) := by
  unfold opLen
  repeat' first
    | exact stp_same
    | exact stp_new
    | exact fun h => .setNew s _ _ h
    | exact fun _ => .set s _ none (.inr rfl)
    | exact fun _ => .setL (by assumption)
    | exact (rfl : _ = _)
    | trivial
    | refine stp_chk fun _ => ?_
    | refine stp_iff (fun _ => ?_) (fun _ => ?_)
    | refine stp_oTI fun _ _ => ?_
    | refine stp_oCells fun _ _ => ?_
    | refine stp_oAV fun _ _ => ?_
    | refine stp_oSt fun _ hw => ?_
    | exact fun _ => .write (by assumption)
    | refine stp_oBlk fun _ _ => ?_
    | refine stp_oNat fun _ _ => ?_
    | refine stp_oBytes fun _ _ => ?_
    | refine stp_oKind fun _ _ => ?_
    | refine stp_oElem fun _ _ => ?_
    | refine stp_oPair fun _ _ => ?_
    | refine stp_oFound fun _ _ => ?_
    | refine stp_oDec fun _ _ => ?_
    | refine stp_oMeth fun _ _ => ?_
    | refine stp_oSrc fun _ _ => ?_
    | refine stp_oVal fun _ _ => ?_
    | refine stp_oEl (fun _ _ => ?_) (fun _ => ?_)
    | refine stp_vPtr fun _ _ _ => ?_
    | refine stp_vInt fun _ _ _ => ?_
    | refine stp_vNat fun _ _ _ => ?_
    | refine stp_vStr fun _ _ => ?_
    | refine stp_vAgg fun _ _ => ?_
    | refine stp_vTup fun _ _ => ?_
    | refine stp_vMap fun _ _ => ?_
    | refine stp_vBool fun _ _ => ?_
    | refine stp_vIface fun _ _ _ => ?_
    | refine stp_vFn fun _ _ _ _ => ?_
    | refine stp_vSlE (fun _ => ?_) (fun _ _ _ _ _ => ?_)
    | refine stp_vMapE (fun _ => ?_) (fun _ _ => ?_)
    | refine stp_vIfaceE (fun _ => ?_) (fun _ _ _ => ?_)
    | refine stp_vNonNil (fun _ _ _ => ?_) (fun _ _ _ => ?_) (fun _ _ _ _ => ?_)
    | refine stp_vConv (fun _ _ _ => ?_) (fun _ _ => ?_) (fun _ => ?_) (fun _ _ _ _ _ => ?_) (fun _ _ _ => ?_)
    | refine stp_vCut (fun _ _ => ?_) (fun _ => ?_) (fun _ _ _ _ _ => ?_) (fun _ _ _ => ?_)
    | refine stp_vIdx (fun _ _ _ _ _ => ?_) (fun _ _ _ => ?_)
    | refine stp_vIdxV (fun _ _ => ?_) (fun _ _ => ?_)
    | refine stp_vRange (fun _ _ => ?_) (fun _ => ?_) (fun _ _ => ?_)
    | refine stp_vLen (fun _ _ => ?_) (fun _ => ?_) (fun _ => ?_) (fun _ _ _ _ _ => ?_) (fun _ _ => ?_)
    | refine stp_vPtrE (fun _ => ?_) (fun _ _ _ => ?_)
    | refine stp_vU8 fun _ _ => ?_
    | refine stp_bnd (fun _ => ?_) (fun _ _ _ => ?_)
    | refine stp_withMap fun _ _ _ => ?_
    | refine stp_withRow fun _ _ _ _ => ?_
    | refine stp_withIter (fun _ _ _ => ?_) (fun _ _ _ _ _ => ?_)
    | refine stp_hit (fun _ => ?_) (fun _ _ _ => ?_)
    | refine stp_atMostOne (fun _ => ?_) (fun _ _ => ?_)
    | refine stp_args1 fun _ _ => ?_
    | refine stp_args2 fun _ _ _ => ?_
    | refine stp_ty1 fun _ _ _ => ?_

theorem stp_Cap {tt : Trie TI} {t : TypeId} {x : AV} : Stp s (opCap tt s t x) := by
  unfold opCap
  repeat' first
    | exact stp_same
    | exact stp_new
    | exact fun h => .setNew s _ _ h
    | exact fun _ => .set s _ none (.inr rfl)
    | exact fun _ => .setL (by assumption)
    | exact (rfl : _ = _)
    | trivial
    | refine stp_chk fun _ => ?_
    | refine stp_iff (fun _ => ?_) (fun _ => ?_)
    | refine stp_oTI fun _ _ => ?_
    | refine stp_oCells fun _ _ => ?_
    | refine stp_oAV fun _ _ => ?_
    | refine stp_oSt fun _ hw => ?_
    | exact fun _ => .write (by assumption)
    | refine stp_oBlk fun _ _ => ?_
    | refine stp_oNat fun _ _ => ?_
    | refine stp_oBytes fun _ _ => ?_
    | refine stp_oKind fun _ _ => ?_
    | refine stp_oElem fun _ _ => ?_
    | refine stp_oPair fun _ _ => ?_
    | refine stp_oFound fun _ _ => ?_
    | refine stp_oDec fun _ _ => ?_
    | refine stp_oMeth fun _ _ => ?_
    | refine stp_oSrc fun _ _ => ?_
    | refine stp_oVal fun _ _ => ?_
    | refine stp_oEl (fun _ _ => ?_) (fun _ => ?_)
    | refine stp_vPtr fun _ _ _ => ?_
    | refine stp_vInt fun _ _ _ => ?_
    | refine stp_vNat fun _ _ _ => ?_
    | refine stp_vStr fun _ _ => ?_
    | refine stp_vAgg fun _ _ => ?_
    | refine stp_vTup fun _ _ => ?_
    | refine stp_vMap fun _ _ => ?_
    | refine stp_vBool fun _ _ => ?_
    | refine stp_vIface fun _ _ _ => ?_
    | refine stp_vFn fun _ _ _ _ => ?_
    | refine stp_vSlE (fun _ => ?_) (fun _ _ _ _ _ => ?_)
    | refine stp_vMapE (fun _ => ?_) (fun _ _ => ?_)
    | refine stp_vIfaceE (fun _ => ?_) (fun _ _ _ => ?_)
    | refine stp_vNonNil (fun _ _ _ => ?_) (fun _ _ _ => ?_) (fun _ _ _ _ => ?_)
    | refine stp_vConv (fun _ _ _ => ?_) (fun _ _ => ?_) (fun _ => ?_) (fun _ _ _ _ _ => ?_) (fun _ _ _ => ?_)
    | refine stp_vCut (fun _ _ => ?_) (fun _ => ?_) (fun _ _ _ _ _ => ?_) (fun _ _ _ => ?_)
    | refine stp_vIdx (fun _ _ _ _ _ => ?_) (fun _ _ _ => ?_)
    | refine stp_vIdxV (fun _ _ => ?_) (fun _ _ => ?_)
    | refine stp_vRange (fun _ _ => ?_) (fun _ => ?_) (fun _ _ => ?_)
    | refine stp_vLen (fun _ _ => ?_) (fun _ => ?_) (fun _ => ?_) (fun _ _ _ _ _ => ?_) (fun _ _ => ?_)
    | refine stp_vPtrE (fun _ => ?_) (fun _ _ _ => ?_)
    | refine stp_vU8 fun _ _ => ?_
    | refine stp_bnd (fun _ => ?_) (fun _ _ _ => ?_)
    | refine stp_withMap fun _ _ _ => ?_
    | refine stp_withRow fun _ _ _ _ => ?_
    | refine stp_withIter (fun _ _ _ => ?_) (fun _ _ _ _ _ => ?_)
    | refine stp_hit (fun _ => ?_) (fun _ _ _ => ?_)
    | refine stp_atMostOne (fun _ => ?_) (fun _ _ => ?_)
    | refine stp_args1 fun _ _ => ?_
    | refine stp_args2 fun _ _ _ => ?_
    | refine stp_ty1 fun _ _ _ => ?_

theorem stp_Max {x y : AV} : Stp s (opMax s x y) := by
  unfold opMax
  repeat' first
    | exact stp_same
    | exact stp_new
    | exact fun h => .setNew s _ _ h
    | exact fun _ => .set s _ none (.inr rfl)
    | exact fun _ => .setL (by assumption)
    | exact (rfl : _ = _)
    | trivial
    | refine stp_chk fun _ => ?_
    | refine stp_iff (fun _ => ?_) (fun _ => ?_)
    | refine stp_oTI fun _ _ => ?_
    | refine stp_oCells fun _ _ => ?_
    | refine stp_oAV fun _ _ => ?_
    | refine stp_oSt fun _ hw => ?_
    | exact fun _ => .write (by assumption)
    | refine stp_oBlk fun _ _ => ?_
    | refine stp_oNat fun _ _ => ?_
    | refine stp_oBytes fun _ _ => ?_
    | refine stp_oKind fun _ _ => ?_
    | refine stp_oElem fun _ _ => ?_
    | refine stp_oPair fun _ _ => ?_
    | refine stp_oFound fun _ _ => ?_
    | refine stp_oDec fun _ _ => ?_
    | refine stp_oMeth fun _ _ => ?_
    | refine stp_oSrc fun _ _ => ?_
    | refine stp_oVal fun _ _ => ?_
    | refine stp_oEl (fun _ _ => ?_) (fun _ => ?_)
    | refine stp_vPtr fun _ _ _ => ?_
    | refine stp_vInt fun _ _ _ => ?_
    | refine stp_vNat fun _ _ _ => ?_
    | refine stp_vStr fun _ _ => ?_
    | refine stp_vAgg fun _ _ => ?_
    | refine stp_vTup fun _ _ => ?_
    | refine stp_vMap fun _ _ => ?_
    | refine stp_vBool fun _ _ => ?_
    | refine stp_vIface fun _ _ _ => ?_
    | refine stp_vFn fun _ _ _ _ => ?_
    | refine stp_vSlE (fun _ => ?_) (fun _ _ _ _ _ => ?_)
    | refine stp_vMapE (fun _ => ?_) (fun _ _ => ?_)
    | refine stp_vIfaceE (fun _ => ?_) (fun _ _ _ => ?_)
    | refine stp_vNonNil (fun _ _ _ => ?_) (fun _ _ _ => ?_) (fun _ _ _ _ => ?_)
    | refine stp_vConv (fun _ _ _ => ?_) (fun _ _ => ?_) (fun _ => ?_) (fun _ _ _ _ _ => ?_) (fun _ _ _ => ?_)
    | refine stp_vCut (fun _ _ => ?_) (fun _ => ?_) (fun _ _ _ _ _ => ?_) (fun _ _ _ => ?_)
    | refine stp_vIdx (fun _ _ _ _ _ => ?_) (fun _ _ _ => ?_)
    | refine stp_vIdxV (fun _ _ => ?_) (fun _ _ => ?_)
    | refine stp_vRange (fun _ _ => ?_) (fun _ => ?_) (fun _ _ => ?_)
    | refine stp_vLen (fun _ _ => ?_) (fun _ => ?_) (fun _ => ?_) (fun _ _ _ _ _ => ?_) (fun _ _ => ?_)
    | refine stp_vPtrE (fun _ => ?_) (fun _ _ _ => ?_)
    | refine stp_vU8 fun _ _ => ?_
    | refine stp_bnd (fun _ => ?_) (fun _ _ _ => ?_)
    | refine stp_withMap fun _ _ _ => ?_
    | refine stp_withRow fun _ _ _ _ => ?_
    | refine stp_withIter (fun _ _ _ => ?_) (fun _ _ _ _ _ => ?_)
    | refine stp_hit (fun _ => ?_) (fun _ _ _ => ?_)
    | refine stp_atMostOne (fun _ => ?_) (fun _ _ => ?_)
    | refine stp_args1 fun _ _ => ?_
    | refine stp_args2 fun _ _ _ => ?_
    | refine stp_ty1 fun _ _ _ => ?_

theorem stp_Min {x y : AV} : Stp s (opMin s x y) := by
  unfold opMin
  repeat' first
    | exact stp_same
    | exact stp_new
    | exact fun h => .setNew s _ _ h
    | exact fun _ => .set s _ none (.inr rfl)
    | exact fun _ => .setL (by assumption)
    | exact (rfl : _ = _)
    | trivial
    | refine stp_chk fun _ => ?_
    | refine stp_iff (fun _ => ?_) (fun _ => ?_)
    | refine stp_oTI fun _ _ => ?_
    | refine stp_oCells fun _ _ => ?_
    | refine stp_oAV fun _ _ => ?_
    | refine stp_oSt fun _ hw => ?_
    | exact fun _ => .write (by assumption)
    | refine stp_oBlk fun _ _ => ?_
    | refine stp_oNat fun _ _ => ?_
    | refine stp_oBytes fun _ _ => ?_
    | refine stp_oKind fun _ _ => ?_
    | refine stp_oElem fun _ _ => ?_
    | refine stp_oPair fun _ _ => ?_
    | refine stp_oFound fun _ _ => ?_
    | refine stp_oDec fun _ _ => ?_
    | refine stp_oMeth fun _ _ => ?_
    | refine stp_oSrc fun _ _ => ?_
    | refine stp_oVal fun _ _ => ?_
    | refine stp_oEl (fun _ _ => ?_) (fun _ => ?_)
    | refine stp_vPtr fun _ _ _ => ?_
    | refine stp_vInt fun _ _ _ => ?_
    | refine stp_vNat fun _ _ _ => ?_
    | refine stp_vStr fun _ _ => ?_
    | refine stp_vAgg fun _ _ => ?_
    | refine stp_vTup fun _ _ => ?_
    | refine stp_vMap fun _ _ => ?_
    | refine stp_vBool fun _ _ => ?_
    | refine stp_vIface fun _ _ _ => ?_
    | refine stp_vFn fun _ _ _ _ => ?_
    | refine stp_vSlE (fun _ => ?_) (fun _ _ _ _ _ => ?_)
    | refine stp_vMapE (fun _ => ?_) (fun _ _ => ?_)
    | refine stp_vIfaceE (fun _ => ?_) (fun _ _ _ => ?_)
    | refine stp_vNonNil (fun _ _ _ => ?_) (fun _ _ _ => ?_) (fun _ _ _ _ => ?_)
    | refine stp_vConv (fun _ _ _ => ?_) (fun _ _ => ?_) (fun _ => ?_) (fun _ _ _ _ _ => ?_) (fun _ _ _ => ?_)
    | refine stp_vCut (fun _ _ => ?_) (fun _ => ?_) (fun _ _ _ _ _ => ?_) (fun _ _ _ => ?_)
    | refine stp_vIdx (fun _ _ _ _ _ => ?_) (fun _ _ _ => ?_)
    | refine stp_vIdxV (fun _ _ => ?_) (fun _ _ => ?_)
    | refine stp_vRange (fun _ _ => ?_) (fun _ => ?_) (fun _ _ => ?_)
    | refine stp_vLen (fun _ _ => ?_) (fun _ => ?_) (fun _ => ?_) (fun _ _ _ _ _ => ?_) (fun _ _ => ?_)
    | refine stp_vPtrE (fun _ => ?_) (fun _ _ _ => ?_)
    | refine stp_vU8 fun _ _ => ?_
    | refine stp_bnd (fun _ => ?_) (fun _ _ _ => ?_)
    | refine stp_withMap fun _ _ _ => ?_
    | refine stp_withRow fun _ _ _ _ => ?_
    | refine stp_withIter (fun _ _ _ => ?_) (fun _ _ _ _ _ => ?_)
    | refine stp_hit (fun _ => ?_) (fun _ _ _ => ?_)
    | refine stp_atMostOne (fun _ => ?_) (fun _ _ => ?_)
    | refine stp_args1 fun _ _ => ?_
    | refine stp_args2 fun _ _ _ => ?_
    | refine stp_ty1 fun _ _ _ => ?_

theorem stp_Clear {tt : Trie TI} {t : TypeId} {x : AV} : Stp s (opClear tt s t x) := by
  unfold opClear
  repeat' first
    | exact stp_same
    | exact stp_new
    | exact fun h => .setNew s _ _ h
    | exact fun _ => .set s _ none (.inr rfl)
    | exact fun _ => .setL (by assumption)
    | exact (rfl : _ = _)
    | trivial
    | refine stp_chk fun _ => ?_
    | refine stp_iff (fun _ => ?_) (fun _ => ?_)
    | refine stp_oTI fun _ _ => ?_
    | refine stp_oCells fun _ _ => ?_
    | refine stp_oAV fun _ _ => ?_
    | refine stp_oSt fun _ hw => ?_
    | exact fun _ => .write (by assumption)
    | refine stp_oBlk fun _ _ => ?_
    | refine stp_oNat fun _ _ => ?_
    | refine stp_oBytes fun _ _ => ?_
    | refine stp_oKind fun _ _ => ?_
    | refine stp_oElem fun _ _ => ?_
    | refine stp_oPair fun _ _ => ?_
    | refine stp_oFound fun _ _ => ?_
    | refine stp_oDec fun _ _ => ?_
    | refine stp_oMeth fun _ _ => ?_
    | refine stp_oSrc fun _ _ => ?_
    | refine stp_oVal fun _ _ => ?_
    | refine stp_oEl (fun _ _ => ?_) (fun _ => ?_)
    | refine stp_vPtr fun _ _ _ => ?_
    | refine stp_vInt fun _ _ _ => ?_
    | refine stp_vNat fun _ _ _ => ?_
    | refine stp_vStr fun _ _ => ?_
    | refine stp_vAgg fun _ _ => ?_
    | refine stp_vTup fun _ _ => ?_
    | refine stp_vMap fun _ _ => ?_
    | refine stp_vBool fun _ _ => ?_
    | refine stp_vIface fun _ _ _ => ?_
    | refine stp_vFn fun _ _ _ _ => ?_
    | refine stp_vSlE (fun _ => ?_) (fun _ _ _ _ _ => ?_)
    | refine stp_vMapE (fun _ => ?_) (fun _ _ => ?_)
    | refine stp_vIfaceE (fun _ => ?_) (fun _ _ _ => ?_)
    | refine stp_vNonNil (fun _ _ _ => ?_) (fun _ _ _ => ?_) (fun _ _ _ _ => ?_)
    | refine stp_vConv (fun _ _ _ => ?_) (fun _ _ => ?_) (fun _ => ?_) (fun _ _ _ _ _ => ?_) (fun _ _ _ => ?_)
    | refine stp_vCut (fun _ _ => ?_) (fun _ => ?_) (fun _ _ _ _ _ => ?_) (fun _ _ _ => ?_)
    | refine stp_vIdx (fun _ _ _ _ _ => ?_) (fun _ _ _ => ?_)
    | refine stp_vIdxV (fun _ _ => ?_) (fun _ _ => ?_)
    | refine stp_vRange (fun _ _ => ?_) (fun _ => ?_) (fun _ _ => ?_)
    | refine stp_vLen (fun _ _ => ?_) (fun _ => ?_) (fun _ => ?_) (fun _ _ _ _ _ => ?_) (fun _ _ => ?_)
    | refine stp_vPtrE (fun _ => ?_) (fun _ _ _ => ?_)
    | refine stp_vU8 fun _ _ => ?_
    | refine stp_bnd (fun _ => ?_) (fun _ _ _ => ?_)
    | refine stp_withMap fun _ _ _ => ?_
    | refine stp_withRow fun _ _ _ _ => ?_
    | refine stp_withIter (fun _ _ _ => ?_) (fun _ _ _ _ _ => ?_)
    | refine stp_hit (fun _ => ?_) (fun _ _ _ => ?_)
    | refine stp_atMostOne (fun _ => ?_) (fun _ _ => ?_)
    | refine stp_args1 fun _ _ => ?_
    | refine stp_args2 fun _ _ _ => ?_
    | refine stp_ty1 fun _ _ _ => ?_

theorem stp_UnsafeString {tt : Trie TI} {t : TypeId} {p n : AV} : Stp s (opUnsafeString tt s t p n) := by
  unfold opUnsafeString
  repeat' first
    | exact stp_same
    | exact stp_new
    | exact fun h => .setNew s _ _ h
    | exact fun _ => .set s _ none (.inr rfl)
    | exact fun _ => .setL (by assumption)
    | exact (rfl : _ = _)
    | trivial
    | refine stp_chk fun _ => ?_
    | refine stp_iff (fun _ => ?_) (fun _ => ?_)
    | refine stp_oTI fun _ _ => ?_
    | refine stp_oCells fun _ _ => ?_
    | refine stp_oAV fun _ _ => ?_
    | refine stp_oSt fun _ hw => ?_
    | exact fun _ => .write (by assumption)
    | refine stp_oBlk fun _ _ => ?_
    | refine stp_oNat fun _ _ => ?_
    | refine stp_oBytes fun _ _ => ?_
    | refine stp_oKind fun _ _ => ?_
    | refine stp_oElem fun _ _ => ?_
    | refine stp_oPair fun _ _ => ?_
    | refine stp_oFound fun _ _ => ?_
    | refine stp_oDec fun _ _ => ?_
    | refine stp_oMeth fun _ _ => ?_
    | refine stp_oSrc fun _ _ => ?_
    | refine stp_oVal fun _ _ => ?_
    | refine stp_oEl (fun _ _ => ?_) (fun _ => ?_)
    | refine stp_vPtr fun _ _ _ => ?_
    | refine stp_vInt fun _ _ _ => ?_
    | refine stp_vNat fun _ _ _ => ?_
    | refine stp_vStr fun _ _ => ?_
    | refine stp_vAgg fun _ _ => ?_
    | refine stp_vTup fun _ _ => ?_
    | refine stp_vMap fun _ _ => ?_
    | refine stp_vBool fun _ _ => ?_
    | refine stp_vIface fun _ _ _ => ?_
    | refine stp_vFn fun _ _ _ _ => ?_
    | refine stp_vSlE (fun _ => ?_) (fun _ _ _ _ _ => ?_)
    | refine stp_vMapE (fun _ => ?_) (fun _ _ => ?_)
    | refine stp_vIfaceE (fun _ => ?_) (fun _ _ _ => ?_)
    | refine stp_vNonNil (fun _ _ _ => ?_) (fun _ _ _ => ?_) (fun _ _ _ _ => ?_)
    | refine stp_vConv (fun _ _ _ => ?_) (fun _ _ => ?_) (fun _ => ?_) (fun _ _ _ _ _ => ?_) (fun _ _ _ => ?_)
    | refine stp_vCut (fun _ _ => ?_) (fun _ => ?_) (fun _ _ _ _ _ => ?_) (fun _ _ _ => ?_)
    | refine stp_vIdx (fun _ _ _ _ _ => ?_) (fun _ _ _ => ?_)
    | refine stp_vIdxV (fun _ _ => ?_) (fun _ _ => ?_)
    | refine stp_vRange (fun _ _ => ?_) (fun _ => ?_) (fun _ _ => ?_)
    | refine stp_vLen (fun _ _ => ?_) (fun _ => ?_) (fun _ => ?_) (fun _ _ _ _ _ => ?_) (fun _ _ => ?_)
    | refine stp_vPtrE (fun _ => ?_) (fun _ _ _ => ?_)
    | refine stp_vU8 fun _ _ => ?_
    | refine stp_bnd (fun _ => ?_) (fun _ _ _ => ?_)
    | refine stp_withMap fun _ _ _ => ?_
    | refine stp_withRow fun _ _ _ _ => ?_
    | refine stp_withIter (fun _ _ _ => ?_) (fun _ _ _ _ _ => ?_)
    | refine stp_hit (fun _ => ?_) (fun _ _ _ => ?_)
    | refine stp_atMostOne (fun _ => ?_) (fun _ _ => ?_)
    | refine stp_args1 fun _ _ => ?_
    | refine stp_args2 fun _ _ _ => ?_
    | refine stp_ty1 fun _ _ _ => ?_

theorem stp_SliceData {x : AV} : Stp s (opSliceData s x) := by
  unfold opSliceData
  repeat' first
    | exact stp_same
    | exact stp_new
    | exact fun h => .setNew s _ _ h
    | exact fun _ => .set s _ none (.inr rfl)
    | exact fun _ => .setL (by assumption)
    | exact (rfl : _ = _)
    | trivial
    | refine stp_chk fun _ => ?_
    | refine stp_iff (fun _ => ?_) (fun _ => ?_)
    | refine stp_oTI fun _ _ => ?_
    | refine stp_oCells fun _ _ => ?_
    | refine stp_oAV fun _ _ => ?_
    | refine stp_oSt fun _ hw => ?_
    | exact fun _ => .write (by assumption)
    | refine stp_oBlk fun _ _ => ?_
    | refine stp_oNat fun _ _ => ?_
    | refine stp_oBytes fun _ _ => ?_
    | refine stp_oKind fun _ _ => ?_
    | refine stp_oElem fun _ _ => ?_
    | refine stp_oPair fun _ _ => ?_
    | refine stp_oFound fun _ _ => ?_
    | refine stp_oDec fun _ _ => ?_
    | refine stp_oMeth fun _ _ => ?_
    | refine stp_oSrc fun _ _ => ?_
    | refine stp_oVal fun _ _ => ?_
    | refine stp_oEl (fun _ _ => ?_) (fun _ => ?_)
    | refine stp_vPtr fun _ _ _ => ?_
    | refine stp_vInt fun _ _ _ => ?_
    | refine stp_vNat fun _ _ _ => ?_
    | refine stp_vStr fun _ _ => ?_
    | refine stp_vAgg fun _ _ => ?_
    | refine stp_vTup fun _ _ => ?_
    | refine stp_vMap fun _ _ => ?_
    | refine stp_vBool fun _ _ => ?_
    | refine stp_vIface fun _ _ _ => ?_
    | refine stp_vFn fun _ _ _ _ => ?_
    | refine stp_vSlE (fun _ => ?_) (fun _ _ _ _ _ => ?_)
    | refine stp_vMapE (fun _ => ?_) (fun _ _ => ?_)
    | refine stp_vIfaceE (fun _ => ?_) (fun _ _ _ => ?_)
    | refine stp_vNonNil (fun _ _ _ => ?_) (fun _ _ _ => ?_) (fun _ _ _ _ => ?_)
    | refine stp_vConv (fun _ _ _ => ?_) (fun _ _ => ?_) (fun _ => ?_) (fun _ _ _ _ _ => ?_) (fun _ _ _ => ?_)
    | refine stp_vCut (fun _ _ => ?_) (fun _ => ?_) (fun _ _ _ _ _ => ?_) (fun _ _ _ => ?_)
    | refine stp_vIdx (fun _ _ _ _ _ => ?_) (fun _ _ _ => ?_)
    | refine stp_vIdxV (fun _ _ => ?_) (fun _ _ => ?_)
    | refine stp_vRange (fun _ _ => ?_) (fun _ => ?_) (fun _ _ => ?_)
    | refine stp_vLen (fun _ _ => ?_) (fun _ => ?_) (fun _ => ?_) (fun _ _ _ _ _ => ?_) (fun _ _ => ?_)
    | refine stp_vPtrE (fun _ => ?_) (fun _ _ _ => ?_)
    | refine stp_vU8 fun _ _ => ?_
    | refine stp_bnd (fun _ => ?_) (fun _ _ _ => ?_)
    | refine stp_withMap fun _ _ _ => ?_
    | refine stp_withRow fun _ _ _ _ => ?_
    | refine stp_withIter (fun _ _ _ => ?_) (fun _ _ _ _ _ => ?_)
    | refine stp_hit (fun _ => ?_) (fun _ _ _ => ?_)
    | refine stp_atMostOne (fun _ => ?_) (fun _ _ => ?_)
    | refine stp_args1 fun _ _ => ?_
    | refine stp_args2 fun _ _ _ => ?_
    | refine stp_ty1 fun _ _ _ => ?_

theorem stp_Panic {x : AV} : Stp s (opPanic s x) := by
  unfold opPanic
  repeat' first
    | exact stp_same
    | exact stp_new
    | exact fun h => .setNew s _ _ h
    | exact fun _ => .set s _ none (.inr rfl)
    | exact fun _ => .setL (by assumption)
    | exact (rfl : _ = _)
    | trivial
    | refine stp_chk fun _ => ?_
    | refine stp_iff (fun _ => ?_) (fun _ => ?_)
    | refine stp_oTI fun _ _ => ?_
    | refine stp_oCells fun _ _ => ?_
    | refine stp_oAV fun _ _ => ?_
    | refine stp_oSt fun _ hw => ?_
    | exact fun _ => .write (by assumption)
    | refine stp_oBlk fun _ _ => ?_
    | refine stp_oNat fun _ _ => ?_
    | refine stp_oBytes fun _ _ => ?_
    | refine stp_oKind fun _ _ => ?_
    | refine stp_oElem fun _ _ => ?_
    | refine stp_oPair fun _ _ => ?_
    | refine stp_oFound fun _ _ => ?_
    | refine stp_oDec fun _ _ => ?_
    | refine stp_oMeth fun _ _ => ?_
    | refine stp_oSrc fun _ _ => ?_
    | refine stp_oVal fun _ _ => ?_
    | refine stp_oEl (fun _ _ => ?_) (fun _ => ?_)
    | refine stp_vPtr fun _ _ _ => ?_
    | refine stp_vInt fun _ _ _ => ?_
    | refine stp_vNat fun _ _ _ => ?_
    | refine stp_vStr fun _ _ => ?_
    | refine stp_vAgg fun _ _ => ?_
    | refine stp_vTup fun _ _ => ?_
    | refine stp_vMap fun _ _ => ?_
    | refine stp_vBool fun _ _ => ?_
    | refine stp_vIface fun _ _ _ => ?_
    | refine stp_vFn fun _ _ _ _ => ?_
    | refine stp_vSlE (fun _ => ?_) (fun _ _ _ _ _ => ?_)
    | refine stp_vMapE (fun _ => ?_) (fun _ _ => ?_)
    | refine stp_vIfaceE (fun _ => ?_) (fun _ _ _ => ?_)
    | refine stp_vNonNil (fun _ _ _ => ?_) (fun _ _ _ => ?_) (fun _ _ _ _ => ?_)
    | refine stp_vConv (fun _ _ _ => ?_) (fun _ _ => ?_) (fun _ => ?_) (fun _ _ _ _ _ => ?_) (fun _ _ _ => ?_)
    | refine stp_vCut (fun _ _ => ?_) (fun _ => ?_) (fun _ _ _ _ _ => ?_) (fun _ _ _ => ?_)
    | refine stp_vIdx (fun _ _ _ _ _ => ?_) (fun _ _ _ => ?_)
    | refine stp_vIdxV (fun _ _ => ?_) (fun _ _ => ?_)
    | refine stp_vRange (fun _ _ => ?_) (fun _ => ?_) (fun _ _ => ?_)
    | refine stp_vLen (fun _ _ => ?_) (fun _ => ?_) (fun _ => ?_) (fun _ _ _ _ _ => ?_) (fun _ _ => ?_)
    | refine stp_vPtrE (fun _ => ?_) (fun _ _ _ => ?_)
    | refine stp_vU8 fun _ _ => ?_
    | refine stp_bnd (fun _ => ?_) (fun _ _ _ => ?_)
    | refine stp_withMap fun _ _ _ => ?_
    | refine stp_withRow fun _ _ _ _ => ?_
    | refine stp_withIter (fun _ _ _ => ?_) (fun _ _ _ _ _ => ?_)
    | refine stp_hit (fun _ => ?_) (fun _ _ _ => ?_)
    | refine stp_atMostOne (fun _ => ?_) (fun _ _ => ?_)
    | refine stp_args1 fun _ _ => ?_
    | refine stp_args2 fun _ _ _ => ?_
    | refine stp_ty1 fun _ _ _ => ?_

theorem stp_Defer {c : Call} {tm : Tmps} : Stp s (opDefer tm c) := by
  unfold opDefer
  split
  repeat' first
    | exact stp_same
    | exact stp_new
    | exact fun h => .setNew s _ _ h
    | exact fun _ => .set s _ none (.inr rfl)
    | exact fun _ => .setL (by assumption)
    | exact (rfl : _ = _)
    | trivial
    | refine stp_chk fun _ => ?_
    | refine stp_iff (fun _ => ?_) (fun _ => ?_)
    | refine stp_oTI fun _ _ => ?_
    | refine stp_oCells fun _ _ => ?_
    | refine stp_oAV fun _ _ => ?_
    | refine stp_oSt fun _ hw => ?_
    | exact fun _ => .write (by assumption)
    | refine stp_oBlk fun _ _ => ?_
    | refine stp_oNat fun _ _ => ?_
    | refine stp_oBytes fun _ _ => ?_
    | refine stp_oKind fun _ _ => ?_
    | refine stp_oElem fun _ _ => ?_
    | refine stp_oPair fun _ _ => ?_
    | refine stp_oFound fun _ _ => ?_
    | refine stp_oDec fun _ _ => ?_
    | refine stp_oMeth fun _ _ => ?_
    | refine stp_oSrc fun _ _ => ?_
    | refine stp_oVal fun _ _ => ?_
    | refine stp_oEl (fun _ _ => ?_) (fun _ => ?_)
    | refine stp_vPtr fun _ _ _ => ?_
    | refine stp_vInt fun _ _ _ => ?_
    | refine stp_vNat fun _ _ _ => ?_
    | refine stp_vStr fun _ _ => ?_
    | refine stp_vAgg fun _ _ => ?_
    | refine stp_vTup fun _ _ => ?_
    | refine stp_vMap fun _ _ => ?_
    | refine stp_vBool fun _ _ => ?_
    | refine stp_vIface fun _ _ _ => ?_
    | refine stp_vFn fun _ _ _ _ => ?_
    | refine stp_vSlE (fun _ => ?_) (fun _ _ _ _ _ => ?_)
    | refine stp_vMapE (fun _ => ?_) (fun _ _ => ?_)
    | refine stp_vIfaceE (fun _ => ?_) (fun _ _ _ => ?_)
    | refine stp_vNonNil (fun _ _ _ => ?_) (fun _ _ _ => ?_) (fun _ _ _ _ => ?_)
    | refine stp_vConv (fun _ _ _ => ?_) (fun _ _ => ?_) (fun _ => ?_) (fun _ _ _ _ _ => ?_) (fun _ _ _ => ?_)
    | refine stp_vCut (fun _ _ => ?_) (fun _ => ?_) (fun _ _ _ _ _ => ?_) (fun _ _ _ => ?_)
    | refine stp_vIdx (fun _ _ _ _ _ => ?_) (fun _ _ _ => ?_)
    | refine stp_vIdxV (fun _ _ => ?_) (fun _ _ => ?_)
    | refine stp_vRange (fun _ _ => ?_) (fun _ => ?_) (fun _ _ => ?_)
    | refine stp_vLen (fun _ _ => ?_) (fun _ => ?_) (fun _ => ?_) (fun _ _ _ _ _ => ?_) (fun _ _ => ?_)
    | refine stp_vPtrE (fun _ => ?_) (fun _ _ _ => ?_)
    | refine stp_vU8 fun _ _ => ?_
    | refine stp_bnd (fun _ => ?_) (fun _ _ _ => ?_)
    | refine stp_withMap fun _ _ _ => ?_
    | refine stp_withRow fun _ _ _ _ => ?_
    | refine stp_withIter (fun _ _ _ => ?_) (fun _ _ _ _ _ => ?_)
    | refine stp_hit (fun _ => ?_) (fun _ _ _ => ?_)
    | refine stp_atMostOne (fun _ => ?_) (fun _ _ => ?_)
    | refine stp_args1 fun _ _ => ?_
    | refine stp_args2 fun _ _ _ => ?_
    | refine stp_ty1 fun _ _ _ => ?_

end
end Go.Dee
