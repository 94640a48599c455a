import Derived.Test.YtffoolaocbgknaaGreatDoorLC
/-! The laws' answers, told to their rows. -/
namespace Go.Proofs.YtffoolaocbgknaaGreatDoor.PD
open Go Go.Proofs Go.RowKit GoD Go.Proofs.YtffoolaocbgknaaGreatDoorW.PrintWords
set_option maxRecDepth 100000
def SourceParses.f := S1.f
theorem SourceParses.calls (a0 : ByteArray) (r : Bool) (w : World) (h : SourceParses.f a0 = some r) : Calls Tryz.prog 3 #[.string a0] w fun e w' => e = .returned (.bool r) ∧ Below w.heap.size w w' := S1.calls pLaw1_ok (fun _ => rfl) (by kernel_rfl) a0 r w h
def SourceParts.f := S3.f
theorem SourceParts.calls (a0 a1 a2 : ByteArray) (r : Bool) (w : World) (h : SourceParts.f a0 a1 a2 = some r) : Calls Tryz.prog 4 #[.string a0, .string a1, .string a2] w fun e w' => e = .returned (.bool r) ∧ Below w.heap.size w w' := S3.calls pLaw2_ok (fun _ _ _ => rfl) (by kernel_rfl) a0 a1 a2 r w h
def SourceMatches.f := LSSI.f
theorem SourceMatches.calls (A0 : Option Addr) (c0 : Nat) (x0 : List ByteArray) (a1 a2 : ByteArray) (a3 : Int) (r : Bool) (w : World) (hC0 : Kd.string.C w A0 x0.length x0) (hl0 : x0.length ≤ c0) {base : Nat} (hv : Value.okWide Tryz.prog w .any base 38 (.slice A0 x0.length c0)) (h : SourceMatches.f x0 a1 a2 a3 = some r) : Calls Tryz.prog 5 #[.slice A0 x0.length c0, .string a1, .string a2, .int .i64 a3] w fun e w' => e = .returned (.bool r) ∧ Below w.heap.size w w' :=
  LSSI.calls (t := 38) (e := 9) Tryz.underlying38 pLaw3_ok (fun h n y l m k h1 h2 => by simp only [pLaw3C, h1, if_pos h2]) (by kernel_rfl) A0 c0 x0 a1 a2 a3 r w hC0 hl0 hv h
def SourceLists.f := LSSI.f
theorem SourceLists.calls (A0 : Option Addr) (c0 : Nat) (x0 : List ByteArray) (a1 a2 : ByteArray) (a3 : Int) (r : Bool) (w : World) (hC0 : Kd.string.C w A0 x0.length x0) (hl0 : x0.length ≤ c0) {base : Nat} (hv : Value.okWide Tryz.prog w .any base 38 (.slice A0 x0.length c0)) (h : SourceLists.f x0 a1 a2 a3 = some r) : Calls Tryz.prog 7 #[.slice A0 x0.length c0, .string a1, .string a2, .int .i64 a3] w fun e w' => e = .returned (.bool r) ∧ Below w.heap.size w w' :=
  LSSI.calls (t := 38) (e := 9) Tryz.underlying38 pLaw7_ok (fun h n y l m k h1 h2 => by simp only [pLaw7C, h1, if_pos h2]) (by kernel_rfl) A0 c0 x0 a1 a2 a3 r w hC0 hl0 hv h
def SourceWider.f := S3.f
def SourceSelf.f := S2.f
end Go.Proofs.YtffoolaocbgknaaGreatDoor.PD
