/- The document's own reading of a URL (parapetref9.URL): its contract by hand, in the print's form. -/
import Derived.Test.YtknkokkgefcdbaaDoorPAx0
import Derived.Test.YtknkokkgefcdbaaDoorPAx14
import Derived.Test.YtknkokkgefcdbaaDoorPAx3
import Derived.Test.YtknkokkgefcdbaaDoorPAx4
import Derived.Test.YtknkokkgefcdbaaDoorPAx5
import Derived.Test.YtknkokkgefcdbaaDoorPAx6
import Derived.Test.YtknkokkgefcdbaaDoorPAx7
import Derived.Test.YtknkokkgefcdbaaDoorXA
namespace Go.Proofs.YtknkokkgefcdbaaDoor.PA
open Go.RowKit Go.Proofs.YtknkokkgefcdbaaDoorW.PrintWords Go.Proofs.YtknkokkgefcdbaaDoorW.PrintLast Go.Proofs.YtknkokkgefcdbaaDoorW.PrintMore
set_option linter.unusedVariables false
set_option linter.unusedSimpArgs false
abbrev UrlR := ByteArray × ByteArray × ByteArray × ByteArray × Int × ByteArray × Bool × ByteArray × Bool × ByteArray × Int
def noUrl : UrlR := (⟨#[]⟩, ⟨#[]⟩, ⟨#[]⟩, ⟨#[]⟩, 0, ⟨#[]⟩, false, ⟨#[]⟩, false, ⟨#[]⟩, 8)
def slashes : Nat → ByteArray → Option ByteArray
  | 0, _ => none
  | k + 1, s => if 0 < (s.size : Int) then (if bt s 0 = 47 then slashes k (s.extract 1 s.size) else if bt s 0 = 92 then slashes k (s.extract 1 s.size) else some s) else some s
def partU (k : Nat) (s : ByteArray) (n set : Int) : Option (Bool × ByteArray) :=
  if n < (s.size : Int) then (cutFrom s (wrap64 (n + 1))).bind fun x => (parapetref9_Encode.f k x set).bind fun e => some (true, e) else some (false, ⟨#[]⟩)
def tailU (k : Nat) (sch s3 : ByteArray) (us ps ho : ByteArray) (po : Int) : Option UrlR :=
  (parapetref9_upTo.f k s3 ⟨#[35]⟩).bind fun k3 => (partU k s3 k3 1).bind fun fr =>
  (cutTo s3 k3).bind fun s4 => (parapetref9_upTo.f k s4 ⟨#[63]⟩).bind fun k4 => (partU k s4 k4 2).bind fun qu =>
  (cutTo s4 k4).bind fun s5 => (parapetref9_path.f k s5).bind fun p => some (sch, us, ps, ho, po, p, qu.1, qu.2, fr.1, fr.2, 0)
def midU (k : Nat) (sch s2 : ByteArray) : Option UrlR :=
  (parapetref9_upTo.f k s2 ⟨#[47, 92, 63, 35]⟩).bind fun k2 => (cutTo s2 k2).bind fun x => (authU k sch x).bind fun a =>
  if a.1 = false then some noUrl else (cutFrom s2 k2).bind fun s3 => tailU k sch s3 a.2.1 a.2.2.1 a.2.2.2.1 a.2.2.2.2
def parapetref9_URL.f (k : Nat) (a0 : ByteArray) : Option UrlR :=
  if (a0.size : Int) > 65536 then some noUrl else (parapetref9_UTF8.f k a0).bind fun b => if b = false then some noUrl else
  (parapetref9_clean.f k a0).bind fun s => (parapetref9_scheme.f k s).bind fun n => (cutTo s n).bind fun x => (parapetref1_Lower.f k x).bind fun sch =>
  (parapetref9_Default.f k sch).bind fun d => if d.2 = false then some noUrl else
  (cutFrom s (wrap64 (n + 1))).bind fun s1 => (slashes k s1).bind fun s2 => midU k sch s2
theorem slashes_mono : ∀ k s, LeO (slashes k s) (slashes (k + 1) s)
  | 0, _ => fun r h => by simp [slashes] at h
  | k + 1, s => by
    have ih := slashes_mono k
    unfold slashes
    exact LeO.ite (LeO.ite (ih _) (LeO.ite (ih _) (LeO.refl _))) (LeO.refl _)
theorem partU_mono (k : Nat) (s : ByteArray) (n set : Int) : LeO (partU k s n set) (partU (k + 1) s n set) := by
  unfold partU
  exact LeO.ite (LeO.bind (LeO.refl _) fun _ => LeO.bind (parapetref9_Encode.mono _ _ _) fun _ => LeO.refl _) (LeO.refl _)
theorem atL_mono : ∀ k s a i, LeO (atL k s a i) (atL (k + 1) s a i)
  | 0, _, _, _ => fun r h => by simp [atL] at h
  | k + 1, s, a, i => by
    have ih := atL_mono k
    unfold atL
    exact LeO.ite (LeO.ite (LeO.ite (ih _ _ _) (ih _ _ _)) (LeO.refl _)) (LeO.refl _)
theorem portL_mono : ∀ k s a i, LeO (portL k s a i) (portL (k + 1) s a i)
  | 0, _, _, _ => fun r h => by simp [portL] at h
  | k + 1, s, a, i => by
    have ih := portL_mono k
    unfold portL
    exact LeO.ite (LeO.ite (LeO.ite (LeO.refl _) (ih _ _ _)) (LeO.refl _)) (LeO.refl _)
theorem authU_mono (k : Nat) (sch s : ByteArray) : LeO (authU k sch s) (authU (k + 1) sch s) := by
  unfold authU
  refine LeO.bind (atL_mono _ _ _ _) fun _ => LeO.bind ?_ fun _ => LeO.bind ?_ fun _ => LeO.refl _
  · unfold userU
    exact LeO.ite (LeO.bind (LeO.refl _) fun _ => LeO.bind (LeO.refl _) fun _ => LeO.bind (parapetref9_upTo.mono _ _ _) fun _ => LeO.bind (LeO.refl _) fun _ => LeO.bind (parapetref9_Encode.mono _ _ _) fun _ => LeO.ite (LeO.bind (LeO.refl _) fun _ => LeO.bind (parapetref9_Encode.mono _ _ _) fun _ => LeO.refl _) (LeO.refl _)) (LeO.refl _)
  · unfold hostU
    refine LeO.bind (parapetref9_upTo.mono _ _ _) fun _ => LeO.bind (LeO.refl _) fun _ => LeO.bind (parapetref9_Host.mono _ _) fun _ => LeO.ite (LeO.ite (LeO.refl _) (LeO.bind (LeO.refl _) fun _ => LeO.ite (LeO.refl _) (LeO.bind (parapetref9_digits.mono _ _ _) fun _ => LeO.ite (LeO.bind (portL_mono _ _ _ _) fun m => ?_) (LeO.refl _)))) (LeO.refl _)
    cases m with
    | none => exact LeO.refl _
    | some v => exact LeO.bind (parapetref9_Default.mono _ _) fun _ => LeO.refl _
theorem parapetref9_URL.mono : ∀ a0 k, LeO (parapetref9_URL.f k a0) (parapetref9_URL.f (k + 1) a0) := by
  intro a0 k
  unfold parapetref9_URL.f
  refine LeO.ite (LeO.refl _) (LeO.bind (parapetref9_UTF8.mono _ _) fun _ => LeO.ite (LeO.refl _) (LeO.bind (parapetref9_clean.mono _ _) fun _ => LeO.bind (parapetref9_scheme.mono _ _) fun _ => LeO.bind (LeO.refl _) fun _ => LeO.bind (parapetref1_Lower.mono _ _) fun _ => LeO.bind (parapetref9_Default.mono _ _) fun _ => LeO.ite (LeO.refl _) (LeO.bind (LeO.refl _) fun _ => LeO.bind (slashes_mono _ _) fun _ => ?_)))
  unfold midU
  refine LeO.bind (parapetref9_upTo.mono _ _ _) fun _ => LeO.bind (LeO.refl _) fun _ => LeO.bind (authU_mono _ _ _) fun _ => LeO.ite (LeO.refl _) (LeO.bind (LeO.refl _) fun _ => ?_)
  unfold tailU
  exact LeO.bind (parapetref9_upTo.mono _ _ _) fun _ => LeO.bind (partU_mono _ _ _ _) fun _ => LeO.bind (LeO.refl _) fun _ => LeO.bind (parapetref9_upTo.mono _ _ _) fun _ => LeO.bind (partU_mono _ _ _ _) fun _ => LeO.bind (LeO.refl _) fun _ => LeO.bind (parapetref9_path.mono _ _) fun _ => LeO.refl _
theorem put10 {W : World} {g : Nat} {a b c d : ByteArray} {n : Int} {e : ByteArray} {q : Bool} {f : ByteArray} {p : Bool} {h : ByteArray} (H : W.heap[g]? = some (rowU a b c d n e q f p h)) (a' b' c' d' : ByteArray) (n' : Int) (e' : ByteArray) (q' : Bool) (f' : ByteArray) (p' : Bool) (h' : ByteArray) :
    ((((((((((W.setCell ⟨g, 0, none⟩ (.string a')).setCell ⟨g, 1, none⟩ (.string b')).setCell ⟨g, 2, none⟩ (.string c')).setCell ⟨g, 3, none⟩ (.string d')).setCell ⟨g, 4, none⟩ (.int .i64 n')).setCell ⟨g, 5, none⟩ (.string e')).setCell ⟨g, 6, none⟩ (.bool q')).setCell ⟨g, 7, none⟩ (.string f')).setCell ⟨g, 8, none⟩ (.bool p')).setCell ⟨g, 9, none⟩ (.string h')).heap[g]? = some (rowU a' b' c' d' n' e' q' f' p' h') := by
  have h0_ : (W.setCell ⟨g, 0, none⟩ (.string a')).heap[g]? = some (rowU a' b c d n e q f p h) := blk_put H 0 _ rfl
  have h1_ : ((W.setCell ⟨g, 0, none⟩ (.string a')).setCell ⟨g, 1, none⟩ (.string b')).heap[g]? = some (rowU a' b' c d n e q f p h) := blk_put h0_ 1 _ rfl
  have h2_ : (((W.setCell ⟨g, 0, none⟩ (.string a')).setCell ⟨g, 1, none⟩ (.string b')).setCell ⟨g, 2, none⟩ (.string c')).heap[g]? = some (rowU a' b' c' d n e q f p h) := blk_put h1_ 2 _ rfl
  have h3_ : ((((W.setCell ⟨g, 0, none⟩ (.string a')).setCell ⟨g, 1, none⟩ (.string b')).setCell ⟨g, 2, none⟩ (.string c')).setCell ⟨g, 3, none⟩ (.string d')).heap[g]? = some (rowU a' b' c' d' n e q f p h) := blk_put h2_ 3 _ rfl
  have h4_ : (((((W.setCell ⟨g, 0, none⟩ (.string a')).setCell ⟨g, 1, none⟩ (.string b')).setCell ⟨g, 2, none⟩ (.string c')).setCell ⟨g, 3, none⟩ (.string d')).setCell ⟨g, 4, none⟩ (.int .i64 n')).heap[g]? = some (rowU a' b' c' d' n' e q f p h) := blk_put h3_ 4 _ rfl
  have h5_ : ((((((W.setCell ⟨g, 0, none⟩ (.string a')).setCell ⟨g, 1, none⟩ (.string b')).setCell ⟨g, 2, none⟩ (.string c')).setCell ⟨g, 3, none⟩ (.string d')).setCell ⟨g, 4, none⟩ (.int .i64 n')).setCell ⟨g, 5, none⟩ (.string e')).heap[g]? = some (rowU a' b' c' d' n' e' q f p h) := blk_put h4_ 5 _ rfl
  have h6_ : (((((((W.setCell ⟨g, 0, none⟩ (.string a')).setCell ⟨g, 1, none⟩ (.string b')).setCell ⟨g, 2, none⟩ (.string c')).setCell ⟨g, 3, none⟩ (.string d')).setCell ⟨g, 4, none⟩ (.int .i64 n')).setCell ⟨g, 5, none⟩ (.string e')).setCell ⟨g, 6, none⟩ (.bool q')).heap[g]? = some (rowU a' b' c' d' n' e' q' f p h) := blk_put h5_ 6 _ rfl
  have h7_ : ((((((((W.setCell ⟨g, 0, none⟩ (.string a')).setCell ⟨g, 1, none⟩ (.string b')).setCell ⟨g, 2, none⟩ (.string c')).setCell ⟨g, 3, none⟩ (.string d')).setCell ⟨g, 4, none⟩ (.int .i64 n')).setCell ⟨g, 5, none⟩ (.string e')).setCell ⟨g, 6, none⟩ (.bool q')).setCell ⟨g, 7, none⟩ (.string f')).heap[g]? = some (rowU a' b' c' d' n' e' q' f' p h) := blk_put h6_ 7 _ rfl
  have h8_ : (((((((((W.setCell ⟨g, 0, none⟩ (.string a')).setCell ⟨g, 1, none⟩ (.string b')).setCell ⟨g, 2, none⟩ (.string c')).setCell ⟨g, 3, none⟩ (.string d')).setCell ⟨g, 4, none⟩ (.int .i64 n')).setCell ⟨g, 5, none⟩ (.string e')).setCell ⟨g, 6, none⟩ (.bool q')).setCell ⟨g, 7, none⟩ (.string f')).setCell ⟨g, 8, none⟩ (.bool p')).heap[g]? = some (rowU a' b' c' d' n' e' q' f' p' h) := blk_put h7_ 8 _ rfl
  have h9_ : ((((((((((W.setCell ⟨g, 0, none⟩ (.string a')).setCell ⟨g, 1, none⟩ (.string b')).setCell ⟨g, 2, none⟩ (.string c')).setCell ⟨g, 3, none⟩ (.string d')).setCell ⟨g, 4, none⟩ (.int .i64 n')).setCell ⟨g, 5, none⟩ (.string e')).setCell ⟨g, 6, none⟩ (.bool q')).setCell ⟨g, 7, none⟩ (.string f')).setCell ⟨g, 8, none⟩ (.bool p')).setCell ⟨g, 9, none⟩ (.string h')).heap[g]? = some (rowU a' b' c' d' n' e' q' f' p' h') := blk_put h8_ 9 _ rfl
  exact h9_
theorem below10 {B : Nat} {w W : World} {g : Nat} (H : Below B w W) (hg : B ≤ g) (v0 v1 v2 v3 v4 v5 v6 v7 v8 v9 : Value) :
    Below B w ((((((((((W.setCell ⟨g, 0, none⟩ v0).setCell ⟨g, 1, none⟩ v1).setCell ⟨g, 2, none⟩ v2).setCell ⟨g, 3, none⟩ v3).setCell ⟨g, 4, none⟩ v4).setCell ⟨g, 5, none⟩ v5).setCell ⟨g, 6, none⟩ v6).setCell ⟨g, 7, none⟩ v7).setCell ⟨g, 8, none⟩ v8).setCell ⟨g, 9, none⟩ v9) :=
  (((((((((H.setCell hg v0).setCell hg v1).setCell hg v2).setCell hg v3).setCell hg v4).setCell hg v5).setCell hg v6).setCell hg v7).setCell hg v8).setCell hg v9
set_option maxHeartbeats 8000000 in
set_option maxRecDepth 100000 in
theorem parapetref9_URL.calls (k : Nat) (a0 : ByteArray) (r1 r2 r3 r4 : ByteArray) (r5 : Int) (r6 : ByteArray) (r7 : Bool) (r8 : ByteArray) (r9 : Bool) (r10 : ByteArray) (r11 : Int) (w : World) (h : parapetref9_URL.f k a0 = some (r1, r2, r3, r4, r5, r6, r7, r8, r9, r10, r11)) :
    Calls Tryd.prog 18 #[.string a0] w fun e w' => e = .returned (.tuple #[.agg #[.string r1, .string r2, .string r3, .string r4, .int .i64 r5, .string r6, .bool r7, .string r8, .bool r9, .string r10], .int .i64 r11]) ∧ Below w.heap.size w w' := by
  unfold parapetref9_URL.f at h
  have hu := Tryd.underlying23
  by_cases c1 : (a0.size : Int) > 65536
  · rw [if_pos c1] at h
    obtain ⟨rfl, rfl, rfl, rfl, rfl, rfl, rfl, rfl, rfl, rfl, rfl⟩ : (⟨#[]⟩ : ByteArray) = r1 ∧ (⟨#[]⟩ : ByteArray) = r2 ∧ (⟨#[]⟩ : ByteArray) = r3 ∧ (⟨#[]⟩ : ByteArray) = r4 ∧ 0 = r5 ∧ (⟨#[]⟩ : ByteArray) = r6 ∧ false = r7 ∧ (⟨#[]⟩ : ByteArray) = r8 ∧ false = r9 ∧ (⟨#[]⟩ : ByteArray) = r10 ∧ 8 = r11 := by simpa [noUrl] using h
    have b1 : decide ((65536 : Int) < (a0.size : Int)) = true := decide_eq_true c1
    clear h c1
    go_enter Tryd.func18, Tryd.ntmps18
    go_wp2
    exact bodyPost_ret (results_ct rfl _ _ w.heap.size 23 #[.string ⟨#[]⟩, .string ⟨#[]⟩, .string ⟨#[]⟩, .string ⟨#[]⟩, .int .i64 0, .string ⟨#[]⟩, .bool false, .string ⟨#[]⟩, .bool false, .string ⟨#[]⟩] (0, 0) _ rfl (blk_new w _) Tryd.underlying23 rfl (by kernel_rfl)) rfl ⟨rfl, below_alloc (Below.refl _ _) _⟩
  · rw [if_neg c1] at h
    have b1 : decide ((65536 : Int) < (a0.size : Int)) = false := decide_eq_false c1
    obtain ⟨b, e1, h2⟩ := Option.bind_eq_some_iff.mp h
    have E1 := Aside0.mk e1
    have H2 := Aside0.mk h2
    clear h e1 h2 c1
    go_enter Tryd.func18, Tryd.ntmps18
    go_wp2_with fail
    refine (parapetref9_UTF8.calls k a0 b _ E1.out).mono ?_
    rintro e w' ⟨rfl, ⟨nd, rfl⟩⟩
    have HR := Aside0.mk (blk_drewN (blk_new w (.cells #[.string ⟨#[]⟩, .string ⟨#[]⟩, .string ⟨#[]⟩, .string ⟨#[]⟩, .int .i64 0, .string ⟨#[]⟩, .bool false, .string ⟨#[]⟩, .bool false, .string ⟨#[]⟩] 23)) nd)
    have HB := Aside0.mk (pw_below_drewN (below_alloc (Below.refl w.heap.size w) (.cells #[.string ⟨#[]⟩, .string ⟨#[]⟩, .string ⟨#[]⟩, .string ⟨#[]⟩, .int .i64 0, .string ⟨#[]⟩, .bool false, .string ⟨#[]⟩, .bool false, .string ⟨#[]⟩] 23)) nd)
    generalize (World.drewN _ nd) = w1 at HR HB ⊢
    clear E1 b1
    have h2 := H2.out
    clear H2
    cases b with
    | false =>
      rw [if_pos rfl] at h2
      obtain ⟨rfl, rfl, rfl, rfl, rfl, rfl, rfl, rfl, rfl, rfl, rfl⟩ : (⟨#[]⟩ : ByteArray) = r1 ∧ (⟨#[]⟩ : ByteArray) = r2 ∧ (⟨#[]⟩ : ByteArray) = r3 ∧ (⟨#[]⟩ : ByteArray) = r4 ∧ 0 = r5 ∧ (⟨#[]⟩ : ByteArray) = r6 ∧ false = r7 ∧ (⟨#[]⟩ : ByteArray) = r8 ∧ false = r9 ∧ (⟨#[]⟩ : ByteArray) = r10 ∧ 8 = r11 := by simpa [noUrl] using h2
      clear h2
      have hcR := fun i => blk_cell HR.out i
      have hfR := fun i => blk_frozen HR.out i
      go_wp2
      exact bodyPost_ret (results_ct rfl _ _ w.heap.size 23 #[.string ⟨#[]⟩, .string ⟨#[]⟩, .string ⟨#[]⟩, .string ⟨#[]⟩, .int .i64 0, .string ⟨#[]⟩, .bool false, .string ⟨#[]⟩, .bool false, .string ⟨#[]⟩] (0, 0) _ rfl (put10 HR.out _ _ _ _ _ _ _ _ _ _) Tryd.underlying23 rfl (by kernel_rfl)) rfl ⟨rfl, below10 HB.out (Nat.le_refl _) _ _ _ _ _ _ _ _ _ _⟩
    | true =>
      rw [if_neg (by simp)] at h2
      obtain ⟨s, e1, h3⟩ := Option.bind_eq_some_iff.mp h2
      obtain ⟨n, e2, h4⟩ := Option.bind_eq_some_iff.mp h3
      obtain ⟨x, e3, h5⟩ := Option.bind_eq_some_iff.mp h4
      obtain ⟨sch, e4, h6⟩ := Option.bind_eq_some_iff.mp h5
      obtain ⟨⟨dn, db⟩, e5, h7⟩ := Option.bind_eq_some_iff.mp h6
      obtain ⟨f1, f2, f3⟩ := cutTo_some e3
      have E1 := Aside0.mk e1
      have E2 := Aside0.mk e2
      have E4 := Aside0.mk e4
      have E5 := Aside0.mk e5
      have F3 := Aside0.mk f3
      have H7 := Aside0.mk h7
      have g1 := eq_true f1
      have g2 := eq_true f2
      clear e1 e2 e3 e4 e5 h2 h3 h4 h5 h6 h7 f1 f2 f3
      go_wp2_with fail
      refine (parapetref9_clean.calls k a0 s _ E1.out).mono ?_
      rintro e w2 ⟨rfl, hb⟩
      have HR2 := Aside0.mk (blk_below HR.out hb)
      have HB2 := Aside0.mk (below_step HB.out hb)
      clear hb HR HB E1
      go_wp2_with fail
      refine (parapetref9_scheme.calls k s n _ E2.out).mono ?_
      rintro e w' ⟨rfl, ⟨nd, rfl⟩⟩
      have HR := Aside0.mk (blk_drewN HR2.out nd)
      have HB := Aside0.mk (pw_below_drewN HB2.out nd)
      generalize (World.drewN _ nd) = w3 at HR HB ⊢
      clear HR2 HB2 E2
      go_wp2_with fail
      rw [F3.out]
      refine (parapetref1_Lower.calls k x sch _ E4.out).mono ?_
      rintro e w4 ⟨rfl, hb⟩
      have HR2 := Aside0.mk (blk_below HR.out hb)
      have HB2 := Aside0.mk (below_step HB.out hb)
      clear hb HR HB E4 g1 g2
      have HR := Aside0.mk (blk_alloc HR2.out (.cells #[.string sch, .string ⟨#[]⟩, .string ⟨#[]⟩, .string ⟨#[]⟩, .int .i64 0, .string ⟨#[]⟩, .bool false, .string ⟨#[]⟩, .bool false, .string ⟨#[]⟩] 23))
      have HB := Aside0.mk (below_alloc HB2.out (.cells #[.string sch, .string ⟨#[]⟩, .string ⟨#[]⟩, .string ⟨#[]⟩, .int .i64 0, .string ⟨#[]⟩, .bool false, .string ⟨#[]⟩, .bool false, .string ⟨#[]⟩] 23))
      have HU := Aside0.mk (blk_new w4 (.cells #[.string sch, .string ⟨#[]⟩, .string ⟨#[]⟩, .string ⟨#[]⟩, .int .i64 0, .string ⟨#[]⟩, .bool false, .string ⟨#[]⟩, .bool false, .string ⟨#[]⟩] 23))
      have HG : Aside0 (w.heap.size + 1 ≤ w4.heap.size) := ⟨blk_lt HR2.out⟩
      clear HR2 HB2 F3
      go_wp2_with fail
      refine (parapetref9_Default.calls k sch dn db _ E5.out).mono ?_
      rintro e w' ⟨rfl, ⟨nd, rfl⟩⟩
      generalize w4.heap.size = gu at HU HG ⊢
      have HR2 := Aside0.mk (blk_drewN HR.out nd)
      have HB2 := Aside0.mk (pw_below_drewN HB.out nd)
      have HU2 := Aside0.mk (blk_drewN HU.out nd)
      generalize (World.drewN _ nd) = w5 at HR2 HB2 HU2 ⊢
      clear HR HB HU E5
      have h7 := H7.out
      clear H7
      cases db with
      | false =>
        rw [if_pos rfl] at h7
        obtain ⟨rfl, rfl, rfl, rfl, rfl, rfl, rfl, rfl, rfl, rfl, rfl⟩ : (⟨#[]⟩ : ByteArray) = r1 ∧ (⟨#[]⟩ : ByteArray) = r2 ∧ (⟨#[]⟩ : ByteArray) = r3 ∧ (⟨#[]⟩ : ByteArray) = r4 ∧ 0 = r5 ∧ (⟨#[]⟩ : ByteArray) = r6 ∧ false = r7 ∧ (⟨#[]⟩ : ByteArray) = r8 ∧ false = r9 ∧ (⟨#[]⟩ : ByteArray) = r10 ∧ 8 = r11 := by simpa [noUrl] using h7
        clear h7
        have HR := HR2
        have HB := HB2
        have hcR := fun i => blk_cell HR.out i
        have hfR := fun i => blk_frozen HR.out i
        go_wp2
        exact bodyPost_ret (results_ct rfl _ _ w.heap.size 23 #[.string ⟨#[]⟩, .string ⟨#[]⟩, .string ⟨#[]⟩, .string ⟨#[]⟩, .int .i64 0, .string ⟨#[]⟩, .bool false, .string ⟨#[]⟩, .bool false, .string ⟨#[]⟩] (0, 0) _ rfl (put10 HR.out _ _ _ _ _ _ _ _ _ _) Tryd.underlying23 rfl (by kernel_rfl)) rfl ⟨rfl, below10 HB.out (Nat.le_refl _) _ _ _ _ _ _ _ _ _ _⟩
      | true =>
        rw [if_neg (by simp)] at h7
        obtain ⟨s1, e1, h8⟩ := Option.bind_eq_some_iff.mp h7
        obtain ⟨s2, e2, h9⟩ := Option.bind_eq_some_iff.mp h8
        obtain ⟨f1, f2, f3⟩ := cutFrom_some e1
        have E2 := Aside0.mk e2
        have H9 := Aside0.mk h9
        have F3 := Aside0.mk f3
        have g1 := eq_true f1
        have g2 := eq_true f2
        clear e1 e2 h7 h8 h9 f1 f2 f3
        go_upto_block 0 with (fail)
        rw [F3.out]
        go_cut [0] (fun v0 W => v0 = .string s2 ∧ Aside0 (W.heap[w.heap.size]? = some (rowU ⟨#[]⟩ ⟨#[]⟩ ⟨#[]⟩ ⟨#[]⟩ 0 ⟨#[]⟩ false ⟨#[]⟩ false ⟨#[]⟩)) ∧ Aside0 (W.heap[gu]? = some (rowU sch ⟨#[]⟩ ⟨#[]⟩ ⟨#[]⟩ 0 ⟨#[]⟩ false ⟨#[]⟩ false ⟨#[]⟩)) ∧ Aside0 (Below w.heap.size w W))
        case first =>
          clear F3 g1 g2
          go_wp2
          go_loopg [0] k (fun kq v0 W => ∃ (z : ByteArray), v0 = .string z ∧ Aside0 (slashes kq z = some s2) ∧ Aside0 (kq ≤ k) ∧ Aside0 (W.heap[w.heap.size]? = some (rowU ⟨#[]⟩ ⟨#[]⟩ ⟨#[]⟩ ⟨#[]⟩ 0 ⟨#[]⟩ false ⟨#[]⟩ false ⟨#[]⟩)) ∧ Aside0 (W.heap[gu]? = some (rowU sch ⟨#[]⟩ ⟨#[]⟩ ⟨#[]⟩ 0 ⟨#[]⟩ false ⟨#[]⟩ false ⟨#[]⟩)) ∧ Aside0 (Below w.heap.size w W))
          case atStart => exact ⟨s1, rfl, E2, ⟨Nat.le_refl _⟩, HR2, HU2, HB2⟩
          case round =>
            clear E2 HR2 HU2 HB2
            obtain ⟨z, rfl, HA, HK1, HR, HU, HB⟩ := hrel
            cases gk with
            | zero => exact absurd HA.out (by simp [slashes])
            | succ k1 =>
              have H := HA.out
              clear HA
              simp only [slashes] at H
              by_cases c1 : 0 < (z.size : Int)
              · rw [if_pos c1] at H
                have d1 : decide (0 < (z.size : Int)) = true := decide_eq_true c1
                have d2 : 0 < z.size := by omega
                have d3 : (0 < z.size) = True := eq_true d2
                have d4 : decide (1 ≤ z.size) = true := decide_eq_true (by omega)
                have d7 : (1 ≤ z.size) = True := eq_true (by omega)
                have d8 : ((1 : Int) ≤ (z.size : Int)) = True := eq_true (by omega)
                have d9 : ((z.size : Int) < (1 : Int)) = False := eq_false (by omega)
                have hx : ∀ h : 0 < z.size, ((z[0]'h).toNat : Int) = bt z 0 := fun h => bt_at z 0 h
                by_cases c2 : bt z 0 = 47
                · rw [if_pos c2] at H
                  have d5 : (bt z 0 == 47) = true := beq_iff_eq.mpr c2
                  have H' := Aside0.mk H
                  clear H c1 c2 d2
                  go_wp2
                  go_roundg k1
                  case measure => have := HK1.out; omega
                  case rel => exact ⟨_, rfl, H', ⟨by have := HK1.out; omega⟩, HR, HU, HB⟩
                · rw [if_neg c2] at H
                  have d5 : (bt z 0 == 47) = false := beq_eq_false_iff_ne.mpr c2
                  by_cases c3 : bt z 0 = 92
                  · rw [if_pos c3] at H
                    have d6 : (bt z 0 == 92) = true := beq_iff_eq.mpr c3
                    have H' := Aside0.mk H
                    clear H c1 c2 c3 d2
                    go_wp2
                    go_roundg k1
                    case measure => have := HK1.out; omega
                    case rel => exact ⟨_, rfl, H', ⟨by have := HK1.out; omega⟩, HR, HU, HB⟩
                  · rw [if_neg c3] at H
                    have d6 : (bt z 0 == 92) = false := beq_eq_false_iff_ne.mpr c3
                    obtain rfl := Option.some.inj H
                    clear H c1 c2 c3 d2
                    go_wp2
                    go_meet
                    case rel => exact ⟨rfl, HR, HU, HB⟩
              · rw [if_neg c1] at H
                have d1 : decide (0 < (z.size : Int)) = false := decide_eq_false c1
                have d3 : (0 < z.size) = False := eq_false (by omega)
                have d4 : decide (1 ≤ z.size) = false := decide_eq_false (by omega)
                obtain rfl := Option.some.inj H
                clear H c1
                go_wp2
                go_meet
                case rel => exact ⟨rfl, HR, HU, HB⟩
        case rest =>
          clear E2 HR2 HU2 HB2 F3 g1 g2
          obtain ⟨rfl, HR, HU, HB⟩ := hcut
          have h9 := H9.out
          clear H9
          unfold midU at h9
          obtain ⟨k2, e1, h10⟩ := Option.bind_eq_some_iff.mp h9
          obtain ⟨x2, e2, h11⟩ := Option.bind_eq_some_iff.mp h10
          obtain ⟨⟨ab, us, ps, ho, po⟩, e3, h12⟩ := Option.bind_eq_some_iff.mp h11
          obtain ⟨f1, f2, f3⟩ := cutTo_some e2
          have E1 := Aside0.mk e1
          have E3 := Aside0.mk e3
          have F3 := Aside0.mk f3
          have H12 := Aside0.mk h12
          have g1 := eq_true f1
          have g2 := eq_true f2
          clear e1 e2 e3 h9 h10 h11 h12 f1 f2 f3
          go_wp2_with fail
          refine (parapetref9_upTo.calls k s2 ⟨#[47, 92, 63, 35]⟩ k2 _ E1.out).mono ?_
          rintro e w' ⟨rfl, ⟨nd, rfl⟩⟩
          have HR2 := Aside0.mk (blk_drewN HR.out nd)
          have HB2 := Aside0.mk (pw_below_drewN HB.out nd)
          have HU2 := Aside0.mk (blk_drewN HU.out nd)
          generalize (World.drewN _ nd) = w6 at HR2 HB2 HU2 ⊢
          clear HR HB HU E1
          go_wp2_with fail
          rw [F3.out]
          refine (authority_calls k gu (w.heap.size + 1) sch x2 ab us ps ho po _ HU2.out HG.out E3.out).mono ?_
          rintro e w7 ⟨rfl, hU, hb⟩
          have HU := Aside0.mk hU
          have HR : Aside0 (w7.heap[w.heap.size]? = some (rowU ⟨#[]⟩ ⟨#[]⟩ ⟨#[]⟩ ⟨#[]⟩ 0 ⟨#[]⟩ false ⟨#[]⟩ false ⟨#[]⟩)) := ⟨(hb.block _ (Nat.lt_succ_self _)).trans HR2.out⟩
          have HB : Aside0 (Below w.heap.size w w7) := ⟨HB2.out.trans (hb.mono (Nat.le_succ _))⟩
          clear hU hb HR2 HB2 HU2 E3 F3
          have h12 := H12.out
          clear H12
          cases ab with
          | false =>
            rw [if_pos rfl] at h12
            obtain ⟨rfl, rfl, rfl, rfl, rfl, rfl, rfl, rfl, rfl, rfl, rfl⟩ : (⟨#[]⟩ : ByteArray) = r1 ∧ (⟨#[]⟩ : ByteArray) = r2 ∧ (⟨#[]⟩ : ByteArray) = r3 ∧ (⟨#[]⟩ : ByteArray) = r4 ∧ 0 = r5 ∧ (⟨#[]⟩ : ByteArray) = r6 ∧ false = r7 ∧ (⟨#[]⟩ : ByteArray) = r8 ∧ false = r9 ∧ (⟨#[]⟩ : ByteArray) = r10 ∧ 8 = r11 := by simpa [noUrl] using h12
            clear h12 g1 g2
            have hcR := fun i => blk_cell HR.out i
            have hfR := fun i => blk_frozen HR.out i
            go_wp2
            exact bodyPost_ret (results_ct rfl _ _ w.heap.size 23 #[.string ⟨#[]⟩, .string ⟨#[]⟩, .string ⟨#[]⟩, .string ⟨#[]⟩, .int .i64 0, .string ⟨#[]⟩, .bool false, .string ⟨#[]⟩, .bool false, .string ⟨#[]⟩] (0, 0) _ rfl (put10 HR.out _ _ _ _ _ _ _ _ _ _) Tryd.underlying23 rfl (by kernel_rfl)) rfl ⟨rfl, below10 HB.out (Nat.le_refl _) _ _ _ _ _ _ _ _ _ _⟩
          | true =>
            rw [if_neg (by simp)] at h12
            obtain ⟨s3, e1, h13⟩ := Option.bind_eq_some_iff.mp h12
            obtain ⟨f1, f2, f3⟩ := cutFrom_some e1
            unfold tailU at h13
            obtain ⟨k3, e2, h14⟩ := Option.bind_eq_some_iff.mp h13
            obtain ⟨⟨fb, ff⟩, e3, h15⟩ := Option.bind_eq_some_iff.mp h14
            obtain ⟨s4, e4, h16⟩ := Option.bind_eq_some_iff.mp h15
            obtain ⟨k4, e5, h17⟩ := Option.bind_eq_some_iff.mp h16
            obtain ⟨⟨qb, qf⟩, e6, h18⟩ := Option.bind_eq_some_iff.mp h17
            obtain ⟨s5, e7, h19⟩ := Option.bind_eq_some_iff.mp h18
            obtain ⟨pa, e8, h20⟩ := Option.bind_eq_some_iff.mp h19
            obtain ⟨rfl, rfl, rfl, rfl, rfl, rfl, rfl, rfl, rfl, rfl, rfl⟩ : sch = r1 ∧ us = r2 ∧ ps = r3 ∧ ho = r4 ∧ po = r5 ∧ pa = r6 ∧ qb = r7 ∧ qf = r8 ∧ fb = r9 ∧ ff = r10 ∧ 0 = r11 := by simpa using h20
            have E2 := Aside0.mk e2
            have E3 := Aside0.mk e3
            have E4 := Aside0.mk e4
            have E5 := Aside0.mk e5
            have E6 := Aside0.mk e6
            have E7 := Aside0.mk e7
            have E8 := Aside0.mk e8
            have F3 := Aside0.mk f3
            clear e1 e2 e3 e4 e5 e6 e7 e8 h12 h13 h14 h15 h16 h17 h18 h19 h20 f1 f2 f3
            go_wp2_with fail
            rw [F3.out]
            refine (parapetref9_upTo.calls k s3 ⟨#[35]⟩ k3 _ E2.out).mono ?_
            rintro e w' ⟨rfl, ⟨nd, rfl⟩⟩
            have HR2 := Aside0.mk (blk_drewN HR.out nd)
            have HB2 := Aside0.mk (pw_below_drewN HB.out nd)
            have HU2 := Aside0.mk (blk_drewN HU.out nd)
            generalize (World.drewN _ nd) = w8 at HR2 HB2 HU2 ⊢
            clear HR HB HU E2 F3 g1 g2
            go_upto_if 70 with (fail)
            go_cut [] (fun W => Aside0 (W.heap[w.heap.size]? = some (rowU ⟨#[]⟩ ⟨#[]⟩ ⟨#[]⟩ ⟨#[]⟩ 0 ⟨#[]⟩ false ⟨#[]⟩ false ⟨#[]⟩)) ∧ Aside0 (W.heap[gu]? = some (rowU sch us ps ho po ⟨#[]⟩ false ⟨#[]⟩ fb ff)) ∧ Aside0 (Below w.heap.size w W))
            case first =>
              have hne : w.heap.size ≠ gu := by have := HG.out; omega
              have hge : w.heap.size ≤ gu := by have := HG.out; omega
              have e9 := E3.out
              unfold partU at e9
              by_cases c1 : k3 < (s3.size : Int)
              · rw [if_pos c1] at e9
                have b1 : decide (k3 < (s3.size : Int)) = true := decide_eq_true c1
                (try rw [b1])
                obtain ⟨y, e1, h1⟩ := Option.bind_eq_some_iff.mp e9
                obtain ⟨en, e2, h2⟩ := Option.bind_eq_some_iff.mp h1
                obtain ⟨rfl, rfl⟩ : true = fb ∧ en = ff := by simpa using h2
                obtain ⟨f1, f2, f3⟩ := cutFrom_some e1
                have Ee := Aside0.mk e2
                have F3 := Aside0.mk f3
                have g1 := eq_true f1
                have g2 := eq_true f2
                clear e1 e2 h1 h2 e9 c1 f1 f2 f3
                have hci := (blk_cell HU2.out 8).trans rfl
                have hfi := blk_frozen HU2.out 8
                go_wp2_with fail
                rw [F3.out]
                refine (parapetref9_Encode.calls k y 1 en _ Ee.out).mono ?_
                rintro e w9 ⟨rfl, hb⟩
                have HU4 := Aside0.mk (blk_below (blk_put HU2.out 8 (.bool true) rfl) hb)
                have HR4 := Aside0.mk (blk_below (blk_far HR2.out (p := ⟨gu, 8, none⟩) hne (.bool true)) hb)
                have HB4 := Aside0.mk (below_step (HB2.out.setCell hge (p := ⟨gu, 8, none⟩) (.bool true)) hb)
                clear hb hci hfi g1 g2
                have hcj := (blk_cell HU4.out 9).trans rfl
                have hfj := blk_frozen HU4.out 9
                go_wp2
                go_meet
                case rel => exact ⟨⟨blk_far HR4.out (p := ⟨gu, 9, none⟩) hne _⟩, ⟨blk_put HU4.out 9 _ rfl⟩, ⟨HB4.out.setCell hge (p := ⟨gu, 9, none⟩) _⟩⟩
              · rw [if_neg c1] at e9
                have b1 : decide (k3 < (s3.size : Int)) = false := decide_eq_false c1
                (try rw [b1])
                obtain ⟨rfl, rfl⟩ : false = fb ∧ (⟨#[]⟩ : ByteArray) = ff := by simpa using e9
                clear e9 c1 hne hge
                go_wp2
                go_meet
                case rel => exact ⟨HR2, HU2, HB2⟩
            case rest =>
              clear HR2 HU2 HB2 E3
              obtain ⟨HR, HU, HB⟩ := hcut
              obtain ⟨f1, f2, f3⟩ := cutTo_some E4.out
              have F3 := Aside0.mk f3
              have g1 := eq_true f1
              have g2 := eq_true f2
              clear f1 f2 f3 E4
              go_wp2_with fail
              rw [F3.out]
              refine (parapetref9_upTo.calls k s4 ⟨#[63]⟩ k4 _ E5.out).mono ?_
              rintro e w' ⟨rfl, ⟨nd, rfl⟩⟩
              have HR2 := Aside0.mk (blk_drewN HR.out nd)
              have HB2 := Aside0.mk (pw_below_drewN HB.out nd)
              have HU2 := Aside0.mk (blk_drewN HU.out nd)
              generalize (World.drewN _ nd) = w10 at HR2 HB2 HU2 ⊢
              clear HR HB HU E5 F3 g1 g2
              go_upto_if 86 with (fail)
              go_cut [] (fun W => Aside0 (W.heap[w.heap.size]? = some (rowU ⟨#[]⟩ ⟨#[]⟩ ⟨#[]⟩ ⟨#[]⟩ 0 ⟨#[]⟩ false ⟨#[]⟩ false ⟨#[]⟩)) ∧ Aside0 (W.heap[gu]? = some (rowU sch us ps ho po ⟨#[]⟩ qb qf fb ff)) ∧ Aside0 (Below w.heap.size w W))
              case first =>
                have hne : w.heap.size ≠ gu := by have := HG.out; omega
                have hge : w.heap.size ≤ gu := by have := HG.out; omega
                have e9 := E6.out
                unfold partU at e9
                by_cases c1 : k4 < (s4.size : Int)
                · rw [if_pos c1] at e9
                  have b1 : decide (k4 < (s4.size : Int)) = true := decide_eq_true c1
                  (try rw [b1])
                  obtain ⟨y, e1, h1⟩ := Option.bind_eq_some_iff.mp e9
                  obtain ⟨en, e2, h2⟩ := Option.bind_eq_some_iff.mp h1
                  obtain ⟨rfl, rfl⟩ : true = qb ∧ en = qf := by simpa using h2
                  obtain ⟨f1, f2, f3⟩ := cutFrom_some e1
                  have Ee := Aside0.mk e2
                  have F3 := Aside0.mk f3
                  have g1 := eq_true f1
                  have g2 := eq_true f2
                  clear e1 e2 h1 h2 e9 c1 f1 f2 f3
                  have hci := (blk_cell HU2.out 6).trans rfl
                  have hfi := blk_frozen HU2.out 6
                  go_wp2_with fail
                  rw [F3.out]
                  refine (parapetref9_Encode.calls k y 2 en _ Ee.out).mono ?_
                  rintro e w9 ⟨rfl, hb⟩
                  have HU4 := Aside0.mk (blk_below (blk_put HU2.out 6 (.bool true) rfl) hb)
                  have HR4 := Aside0.mk (blk_below (blk_far HR2.out (p := ⟨gu, 6, none⟩) hne (.bool true)) hb)
                  have HB4 := Aside0.mk (below_step (HB2.out.setCell hge (p := ⟨gu, 6, none⟩) (.bool true)) hb)
                  clear hb hci hfi g1 g2
                  have hcj := (blk_cell HU4.out 7).trans rfl
                  have hfj := blk_frozen HU4.out 7
                  go_wp2
                  go_meet
                  case rel => exact ⟨⟨blk_far HR4.out (p := ⟨gu, 7, none⟩) hne _⟩, ⟨blk_put HU4.out 7 _ rfl⟩, ⟨HB4.out.setCell hge (p := ⟨gu, 7, none⟩) _⟩⟩
                · rw [if_neg c1] at e9
                  have b1 : decide (k4 < (s4.size : Int)) = false := decide_eq_false c1
                  (try rw [b1])
                  obtain ⟨rfl, rfl⟩ : false = qb ∧ (⟨#[]⟩ : ByteArray) = qf := by simpa using e9
                  clear e9 c1 hne hge
                  go_wp2
                  go_meet
                  case rel => exact ⟨HR2, HU2, HB2⟩
              case rest =>
                clear HR2 HU2 HB2 E6
                obtain ⟨HR, HU, HB⟩ := hcut
                have hne : w.heap.size ≠ gu := by have := HG.out; omega
                have hge : w.heap.size ≤ gu := by have := HG.out; omega
                obtain ⟨f1, f2, f3⟩ := cutTo_some E7.out
                have F3 := Aside0.mk f3
                have g1 := eq_true f1
                have g2 := eq_true f2
                clear f1 f2 f3 E7
                go_wp2_with fail
                rw [F3.out]
                refine (parapetref9_path.calls k s5 pa _ E8.out).mono ?_
                rintro e w11 ⟨rfl, hb⟩
                have HU4 := Aside0.mk (blk_below HU.out hb)
                have HR4 := Aside0.mk (blk_below HR.out hb)
                have HB4 := Aside0.mk (below_step HB.out hb)
                clear hb HU HR HB g1 g2 F3 E8
                have hc5 := (blk_cell HU4.out 5).trans rfl
                have hf5 := blk_frozen HU4.out 5
                go_upto_region 26 with (fail)
                have HU5 := Aside0.mk (blk_put HU4.out 5 (.string pa) rfl)
                have HR5 := Aside0.mk (blk_far HR4.out (p := ⟨gu, 5, none⟩) hne (.string pa))
                have HB5 := Aside0.mk (HB4.out.setCell hge (p := ⟨gu, 5, none⟩) (.string pa))
                generalize (World.setCell w11 _ _) = w12 at HU5 HR5 HB5 ⊢
                clear hc5 hf5 HU4 HR4 HB4
                have hcU := fun i => blk_cell HU5.out i
                have hcR := fun i => blk_cell HR5.out i
                have hfR := fun i => blk_frozen HR5.out i
                go_wp2
                exact bodyPost_ret (results_ct rfl _ _ w.heap.size 23 #[.string sch, .string us, .string ps, .string ho, .int .i64 po, .string pa, .bool qb, .string qf, .bool fb, .string ff] (0, 0) _ rfl (put10 HR5.out _ _ _ _ _ _ _ _ _ _) Tryd.underlying23 rfl (by kernel_rfl)) rfl ⟨rfl, below10 HB5.out (Nat.le_refl _) _ _ _ _ _ _ _ _ _ _⟩
end Go.Proofs.YtknkokkgefcdbaaDoor.PA
