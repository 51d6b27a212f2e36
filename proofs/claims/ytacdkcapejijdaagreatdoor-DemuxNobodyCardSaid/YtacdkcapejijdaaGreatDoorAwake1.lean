/- What awake asks, reckoned (no program here). -/
import Derived.Test.YtacdkcapejijdaaGreatDoorSpec4
namespace Clo

def getW : Str := [71, 69, 84, 32, 47, 32, 72, 84, 84, 80, 47, 49, 46, 49, 13, 10, 72, 111, 115, 116, 58, 32, 97, 13, 10, 67, 111, 111, 107, 105, 101, 58, 32, 115, 105, 100, 61, 116, 13, 10, 13, 10]
def aw1 : Dm := dmNew 2 1 1
def aw2 : Dm := (dmBind aw1 [116] 1).1
def aw3 : Dm := (dmArrive aw2 0 (getW ++ getW)).1
def aw4 : Dm := (dmPick aw3 0).1
def rsHi : Rs := ⟨200, [], [104, 105], false⟩
def aw5 : Dm := (dmAnswer aw4 0 rsHi).1
def aw6 : Dm := (dmPick aw5 0).1
theorem aw_1 : (dmBind aw1 [116] 1).2 = 0 := by decide +kernel
theorem aw_2 : (dmArrive aw2 0 (getW ++ getW)).2 = 0 := by decide +kernel
theorem aw_3 : (dmPick aw3 0).2.2 = 0 := by decide +kernel
theorem aw_4 : (dmPick aw3 0).2.1.kind = 4 := by decide +kernel
theorem aw_5 : (dmPick aw3 0).2.1.user = 1 := by decide +kernel
theorem aw_6 : (dmAnswer aw4 0 rsHi).2 = 0 := by decide +kernel
theorem aw_7 : (dmPick aw5 0).2.2 = 0 := by decide +kernel
theorem aw_8 : (dmPick aw5 0).2.1.kind = 1 := by decide +kernel
theorem aw_9 : decide (20 < (dmPick aw5 0).2.1.out.length) = true := by decide +kernel
theorem aw_10 : dmUser aw6 0 = 1 := by decide +kernel
end Clo
