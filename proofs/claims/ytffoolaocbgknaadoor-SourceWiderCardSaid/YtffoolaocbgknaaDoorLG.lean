import Derived.Test.YtffoolaocbgknaaDoorLC
/-! The laws' answers, told to their rows. -/
namespace Go.Proofs.YtffoolaocbgknaaDoor.PD
open Go Go.Proofs Go.RowKit GoD Go.Proofs.YtffoolaocbgknaaDoorW.PrintWords
set_option maxRecDepth 100000
def SourceParses.f := S1.f
def SourceParts.f := S3.f
def SourceMatches.f := LSSI.f
def SourceLists.f := LSSI.f
def SourceWider.f := S3.f
theorem SourceWider.calls (a0 a1 a2 : ByteArray) (r : Bool) (w : World) (h : SourceWider.f a0 a1 a2 = some r) : Calls Tryd.prog 3 #[.string a0, .string a1, .string a2] w fun e w' => e = .returned (.bool r) ∧ Below w.heap.size w w' := S3.calls pLawW_ok (fun _ _ _ => rfl) (by kernel_rfl) a0 a1 a2 r w h
def SourceSelf.f := S2.f
theorem SourceSelf.calls (a0 a1 : ByteArray) (r : Bool) (w : World) (h : SourceSelf.f a0 a1 = some r) : Calls Tryd.prog 4 #[.string a0, .string a1] w fun e w' => e = .returned (.bool r) ∧ Below w.heap.size w w' := S2.calls pLawO_ok (fun _ _ => rfl) (by kernel_rfl) a0 a1 r w h
end Go.Proofs.YtffoolaocbgknaaDoor.PD
