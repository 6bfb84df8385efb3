/- The closed law from variables that hold what the text lays. Part of the proof that FastKnown returns true on every schedule, its listed variables laid as the text lays them. -/
import Derived.Test.YtiinfilmfcmicaaGreatDoorT05
import Derived.Test.YtiinfilmfcmicaaGreatDoorT06
import Derived.Test.YtiinfilmfcmicaaGreatDoorT07
import Derived.Test.YtiinfilmfcmicaaGreatDoorT08
import Derived.Test.YtiinfilmfcmicaaGreatDoorT02
import Derived.Test.YtiinfilmfcmicaaGreatDoorT04
import Derived.Test.YtiinfilmfcmicaaGreatDoorR01
import Derived.Test.YtiinfilmfcmicaaGreatDoorR02
import Derived.Test.YtiinfilmfcmicaaGreatDoorR03
import Derived.Test.YtiinfilmfcmicaaGreatDoorR04
import Derived.Test.YtiinfilmfcmicaaGreatDoorS01
import Derived.Test.YtiinfilmfcmicaaGreatDoorD10
/- What is checked of the functions. -/
namespace FastT
noncomputable section
open Go Go.Dee Go.Proofs
theorem gl_ok : ∀ p ∈ gl, fnCheck env 10 p = true := app_ok (allB_iff.1 gl0_ok) (app_ok (allB_iff.1 gl1_ok) (app_ok (allB_iff.1 gl2_ok) (app_ok (allB_iff.1 gl3_ok) (app_ok (allB_iff.1 gl4_ok) (app_ok (allB_iff.1 gl5_ok) (app_ok (allB_iff.1 gl6_ok) (app_ok (allB_iff.1 gl7_ok) (app_ok (allB_iff.1 gl8_ok) (app_ok (allB_iff.1 gl9_ok) (app_ok (allB_iff.1 gl10_ok) (app_ok (allB_iff.1 gl11_ok) (app_ok (allB_iff.1 gl12_ok) (app_ok (allB_iff.1 gl13_ok) (app_ok (allB_iff.1 gl14_ok) (app_ok (allB_iff.1 gl15_ok) (app_ok (allB_iff.1 gl16_ok) (app_ok (allB_iff.1 gl17_ok) (app_ok (allB_iff.1 gl18_ok) (app_ok (allB_iff.1 gl19_ok) (app_ok (allB_iff.1 gl20_ok) (app_ok (allB_iff.1 gl21_ok) (allB_iff.1 gl22_ok))))))))))))))))))))))
theorem ft_ok : FTok Tryz.prog env 10 := .of gl gl_at ft_eq gl_ok

end
end FastT
/- The closed law: from variables that hold what the text lays, it answers true on every schedule, and turns nothing that was there. -/
namespace FastT
noncomputable section
open Go Go.Dee Go.Proofs
set_option maxRecDepth 100000
theorem mixed : Tryz.prog.follows .mixedOrders = true := by kernel_rfl
theorem hasOK : HasOK Tryz.prog 61 3 := ⟨⟨Tryz.f61, Tryz.func61, by kernel_rfl, by kernel_rfl⟩, fun s sub m w hs hm => Tryz.strings_Contains s sub m w hs hm⟩
theorem ents_all : ∀ e ∈ ents, e.ok 10 3 = true ∧ ∀ m, e.runs 3 3 call1 6 m = true := fun e he => by
  refine ⟨allB_iff.1 ents_ok e he, ?_⟩
  simp only [ents, List.mem_cons, List.not_mem_nil, or_false] at he
  rcases he with rfl | rfl | rfl | rfl
  · exact kr0
  · exact kr1
  · exact kr2
  · exact kr3
theorem known {w : World} {m : Int} (h0 : HB env.tt (baseRen 10) w 3 (numBlk 3 m)) (h1 : HB env.tt (baseRen 10) w 2 (.cells bindings 297 0)) : Calls Tryz.prog 3 #[] w fun
    | .returned v, w' => v = .bool true ∧ Go.RowKit.Below w.heap.size w w'
    | _, _ => False :=
  closedG (call2_ok tt_ok ext_ok ft_ok mixed hasOK (by decide) ents_all 200) start_ok rfl (by kernel_rfl) (call2_log 200) (run m) fun p hp => by
    rcases List.mem_cons.1 hp with rfl | hp
    · exact h0
    · obtain rfl := List.mem_singleton.1 hp
      exact h1
end
end FastT
