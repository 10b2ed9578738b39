import PyProof.Rows.All
import Wide.All
import OpenK.AllK
import Wide.FinOn
import Open.SpecLaws
import KE.OsHead
import KE.OsGo
import HandS.ForSpec
import HandS.Comp
import HandS.Iter
import HandS.Walk
import PySem.Challenge.RW_juicefilters_s01_purity
set_option Elab.async false
set_option linter.all false
set_option maxRecDepth 100000
set_option maxHeartbeats 4000000
namespace Jf
open PySem PySem.Spec PyProof.Rows L2
open PySem.W (Codec)
/-! ### the text by places -/
def topS (i : Nat) : Stmt := PySem.Challenge.pw_juicefilters_s01_purity.main.body.getD i (.Pass ⟨0, 0, 0, 0⟩)
abbrev s_is_juice : Stmt := topS 3
theorem sc_is_juice : FnScope ["sugar", "other"] ["sugar", "other"] (defScope s_is_juice) := ⟨rfl, rfl, rfl, by decide +kernel, rfl, by decide +kernel, by decide +kernel⟩
abbrev s_purity_of : Stmt := topS 6
theorem sc_purity_of : FnScope ["sugar", "other"] ["sugar", "other"] (defScope s_purity_of) := ⟨rfl, rfl, rfl, by decide +kernel, rfl, by decide +kernel, by decide +kernel⟩
abbrev s_had_of : Stmt := topS 7
theorem sc_had_of : FnScope ["sugar", "other"] ["sugar", "other"] (defScope s_had_of) := ⟨rfl, rfl, rfl, by decide +kernel, rfl, by decide +kernel, by decide +kernel⟩
abbrev s_purity : Stmt := topS 9
theorem sc_purity : FnScope ["sugar", "other"] ["sugar", "other"] (defScope s_purity) := ⟨rfl, rfl, rfl, by decide +kernel, rfl, by decide +kernel, by decide +kernel⟩
/-! ### the mathematics -/
theorem juice_in {s o : Nat} (h : ((s : Nat) : Int) ≤ 1000000) : Kzb4.okJuice ⟨s, o⟩ = decide (((o : Nat) : Int) ≤ 1000000) := by
  unfold Kzb4.okJuice Kzb4.most
  rw [decide_eq_true (show s ≤ 1000000 by omega), Bool.true_and]
  exact decide_eq_decide.mpr (by show o ≤ 1000000 ↔ _; omega)
theorem juice_out {s o : Nat} (h : ¬ ((s : Nat) : Int) ≤ 1000000) : Kzb4.okJuice ⟨s, o⟩ = false := by
  unfold Kzb4.okJuice Kzb4.most
  rw [decide_eq_false (show ¬ s ≤ 1000000 by omega)]
  rfl
theorem juice_le {s o : Nat} (h : Kzb4.okJuice ⟨s, o⟩ = true) : s ≤ 1000000 ∧ o ≤ 1000000 := by
  unfold Kzb4.okJuice Kzb4.most at h
  rw [Bool.and_eq_true] at h
  exact ⟨of_decide_eq_true h.1, of_decide_eq_true h.2⟩
theorem had_is (s o : Nat) : (if ((s : Nat) : Int) - 3 * ((o : Nat) : Int) / 2 > 0 then ((s : Nat) : Int) - 3 * ((o : Nat) : Int) / 2 else 0) = ((Kzb4.had ⟨s, o⟩ : Nat) : Int) := by
  unfold Kzb4.had
  show _ = ((s - o * 3 / 2 : Nat) : Int)
  split <;> omega
theorem purity_pos {s o : Nat} (h : ¬ ((s : Nat) : Int) + ((o : Nat) : Int) = 0) : ((s : Nat) : Int) * 10000 / (((s : Nat) : Int) + ((o : Nat) : Int)) = ((Kzb4.purity ⟨s, o⟩ : Nat) : Int) := by
  unfold Kzb4.purity
  rw [if_neg (show ¬ (s + o = 0) by omega)]
  show _ = ((s * 10000 / (s + o) : Nat) : Int)
  rw [Int.natCast_ediv, Int.natCast_mul, Int.natCast_add]
  rfl
theorem purity_zero {s o : Nat} (h : ((s : Nat) : Int) + ((o : Nat) : Int) = 0) : Kzb4.purity ⟨s, o⟩ = 0 := by
  unfold Kzb4.purity
  rw [if_pos (show s + o = 0 by omega)]
/-! ### a def that may be called by its name -/
structure Has (P : Program) (w : World) (K : PySem.W.Frag) (mg : Str → Option Value) (base : Heap) (x : Str) (k : Nat) (ps : List Str) (sp : Sp) (f : Addr) (fd : FuncData) : Prop where
  ok : FnOk P w K mg base CX0 k f fd ps sp
  at_ : mg x = some (.ref f)
  kp : PySem.W.keepIn K (.ref f) = true
  bd : Binds K fd ps []
theorem pe_has {X : Cx} {x : Str} {k : Nat} {ps : List Str} {sp : Sp} {f : Addr} {fd : FuncData} {e : Expr} {es : List Expr} {t : TA} {p pos : Pos} (G : Has X.prog X.w X.K X.mg X.base x k ps sp f fd) (hr : Room k X.A) (ha : PA X (e :: es) t) (hg : Gl X x := by rfl)
    (hdb : (x == ("__debug__" : Str)) = false := by decide) (he : starEach (e :: es) X.env = (false, eval e X.env) :: starEach es X.env := by rfl) (hpl : (backTo pos (starEach es X.env)).any (·.1) = false := by rfl) :
    PE X (.Call (.Name x p) (e :: es) [] pos) (tCall sp [] E0 t) := pe_call G.ok hr hg G.at_ G.kp G.bd .nil pass0 ha hdb he hpl
theorem pe_num {X : Cx} {x : Str} {i : Int} {t} {pos : Pos} (hm : X.mg x = some (.int i t)) (hg : Gl X x := by rfl) (hd : (x == ("__debug__" : Str)) = false := by decide) : PE X (.Name x pos) (tC (.int i)) := pe_glob hg hm ⟨t, rfl⟩ hd
theorem same_upd {H : Hp} {p : Addr} {o : HO} (h : H p = none) : Same H (upd H p o) := fun b x e => by
  rw [upd_ne (ne_of_none e h)]
  exact e
section
variable {P : Program} {w : World} {K : PySem.W.Frag} {mg : Str → Option Value} {base : Heap}
/-! ### is_juice -/
def sp_is_juice : Sp := fun vs H Q _ => ∃ s o : Nat, vs = [.int s, .int o] ∧ Q (.bl (Kzb4.okJuice ⟨s, o⟩)) H
theorem ok_is_juice {f : Addr} {fd : FuncData} (F : Fun K "is_juice" "is_juice" s_is_juice f fd) {t_MOST_KILOGRAMS : _} (c_MOST_KILOGRAMS : mg "MOST_KILOGRAMS" = some (.int 1000000 t_MOST_KILOGRAMS)) : FnOk P w K mg base CX0 1 f fd ["sugar", "other"] sp_is_juice := by
  refine F.ok sc_is_juice (fun vs H Q E h => ?_) (fun cdv A outer s H vs Q E hr h => ?_)
  · obtain ⟨s, o, rfl, _⟩ := h
    rfl
  · obtain ⟨s, o, rfl, q⟩ := h
    refine ⟨_, pss_one (ps_ret (pe_and (pe_cmpR op_le (pv 0) (pe_num c_MOST_KILOGRAMS) (nomark _)) (pe_one (pe_cmpR op_le (pv 1) (pe_num c_MOST_KILOGRAMS) (nomark _))))), ?_⟩
    refine ⟨_, rfl, _, _, rfl, rfl, _, rfl, ite2 (fun e => ?_) (fun e => ?_)⟩
    · rw [juice_in (of_decide_eq_true e)] at q
      exact ⟨_, rfl, _, _, rfl, rfl, q⟩
    · rw [juice_out (fun z => e (decide_eq_true z))] at q
      exact q
/-! ### purity_of -/
def sp_purity_of : Sp := fun vs H Q _ => ∃ s o : Nat, vs = [.int s, .int o] ∧ s ≤ 1000000 ∧ o ≤ 1000000 ∧ Q (.int ((Kzb4.purity ⟨s, o⟩ : Nat) : Int)) H
theorem ok_purity_of {f : Addr} {fd : FuncData} (F : Fun K "purity_of" "purity_of" s_purity_of f fd) {t_WHOLE : _} (c_WHOLE : mg "WHOLE" = some (.int 10000 t_WHOLE)) : FnOk P w K mg base CX0 1 f fd ["sugar", "other"] sp_purity_of := by
  refine F.ok sc_purity_of (fun vs H Q E h => ?_) (fun cdv A outer s H vs Q E hr h => ?_)
  · obtain ⟨s, o, rfl, _⟩ := h
    rfl
  · obtain ⟨s, o, rfl, hs, ho, q⟩ := h
    refine ⟨_, pss_cons (ps_if (pt_cmpR op_eq (pe_op op_add (pv 0) (pv 1)) pe_int (nomark _)) (pss_one (ps_ret pe_int)) pss_nil)
      (pss_one (ps_ret (pe_op op_fdiv (pe_op op_mul (pv 0) (pe_num c_WHOLE)) (pe_op op_add (pv 0) (pv 1))))), ?_⟩
    refine ⟨_, rfl, _, rfl, _, _, rfl, rfl, rfl, _, rfl, ite2 (fun e => ?_) (fun e => ?_)⟩
    · have e0 : ((s : Nat) : Int) + ((o : Nat) : Int) = 0 := V.int.inj (of_decide_eq_true e)
      rw [purity_zero e0] at q
      exact q
    · have e0 : ¬ ((s : Nat) : Int) + ((o : Nat) : Int) = 0 := fun z => e (decide_eq_true (congrArg V.int z))
      rw [← purity_pos e0] at q
      exact ⟨_, rfl, _, _, rfl, rfl, .inr ⟨by decide, by decide⟩, _, rfl, _, rfl, _, _, rfl, rfl, _, _, rfl, rfl, ⟨by omega, by omega⟩, q⟩
/-! ### had_of -/
def sp_had_of : Sp := fun vs H Q _ => ∃ s o : Nat, vs = [.int s, .int o] ∧ Q (.int ((Kzb4.had ⟨s, o⟩ : Nat) : Int)) H
theorem ok_had_of {f : Addr} {fd : FuncData} (F : Fun K "had_of" "had_of" s_had_of f fd) (z_max : mg "max" = none) : FnOk P w K mg base CX0 1 f fd ["sugar", "other"] sp_had_of := by
  refine F.ok sc_had_of (fun vs H Q E h => ?_) (fun cdv A outer s H vs Q E hr h => ?_)
  · obtain ⟨s, o, rfl, _⟩ := h
    rfl
  · obtain ⟨s, o, rfl, q⟩ := h
    refine ⟨_, pss_one (ps_ret (pe_callB (call_max2 rfl) (by rfl) z_max (by decide +kernel) (pa_cons pe_int (pa_cons (pe_op op_sub (pv 0) (pe_op op_fdiv (pe_op op_mul pe_int (pv 1)) pe_int)) pa_nil)))), ?_⟩
    rw [← had_is s o] at q
    exact ⟨_, rfl, _, rfl, _, _, rfl, rfl, .inl ⟨by decide, by decide⟩, _, _, rfl, rfl, ⟨by decide, by decide⟩, _, _, rfl, rfl, _, _, rfl, q⟩
/-! ### purity -/
theorem ans_purity (s o : Nat) : PyKzb4.purity s o = if Kzb4.okJuice ⟨s, o⟩ = false then [-22] else [((Kzb4.purity ⟨s, o⟩ : Nat) : Int), ((Kzb4.had ⟨s, o⟩ : Nat) : Int)] := by
  show ((Kzb4.answer (.purity s o)).value :: Kzb4Neutral.ints (Kzb4.answer (.purity s o)).nums) = _
  unfold Kzb4.answer
  dsimp only
  split <;> rfl
def sp_purity (K : PySem.W.Frag) : Sp := fun vs H Q _ => ∃ s o : Nat, vs = [.int s, .int o] ∧ ∀ (H' : Hp) (p : Addr), H' p = some (.lst ((PyKzb4.purity s o).map V.int)) → Q (.ref p) H'
theorem ok_purity {f : Addr} {fd : FuncData} (F : Fun K "purity" "purity" s_purity f fd) {t_REFUSED : _} (c_REFUSED : mg "REFUSED" = some (.int (-22) t_REFUSED)) {f_is_juice : Addr} {fd_is_juice : FuncData} (h_is_juice : Has P w K mg base "is_juice" 1 ["sugar", "other"] sp_is_juice f_is_juice fd_is_juice) {f_purity_of : Addr} {fd_purity_of : FuncData} (h_purity_of : Has P w K mg base "purity_of" 1 ["sugar", "other"] sp_purity_of f_purity_of fd_purity_of) {f_had_of : Addr} {fd_had_of : FuncData} (h_had_of : Has P w K mg base "had_of" 1 ["sugar", "other"] sp_had_of f_had_of fd_had_of) : FnOk P w K mg base CX0 2 f fd ["sugar", "other"] (sp_purity K) := by
  refine F.ok sc_purity (fun vs H Q E h => ?_) (fun cdv A outer s H vs Q E hr h => ?_)
  · obtain ⟨s, o, rfl, _⟩ := h
    rfl
  · obtain ⟨s, o, rfl, q⟩ := h
    rw [ans_purity] at q
    have hr1 : Room 1 _ := hr.mono (by decide)
    refine ⟨_, pss_cons (ps_if (pt_not (pt_val (pe_has h_is_juice hr1 (pa_cons (pv 0) (pa_cons (pv 1) pa_nil))))) (pss_one (ps_ret (pe_lst (pa_cons (pe_num c_REFUSED) pa_nil)))) pss_nil)
      (pss_one (ps_ret (pe_lst (pa_cons (pe_has h_purity_of hr1 (pa_cons (pv 0) (pa_cons (pv 1) pa_nil))) (pa_cons (pe_has h_had_of hr1 (pa_cons (pv 0) (pa_cons (pv 1) pa_nil))) pa_nil))))), ?_⟩
    refine ⟨_, rfl, _, rfl, s, o, rfl, _, rfl, ite2 (fun e => ?_) (fun e => ?_)⟩
    · rw [Bool.not_eq_true'] at e
      rw [if_pos e] at q
      exact ⟨(by show 1 ≤ sizeLine; decide), fun p hp => q _ p upd_same⟩
    · have e1 : Kzb4.okJuice ⟨s, o⟩ = true := by
        cases z : Kzb4.okJuice ⟨s, o⟩ with
        | true => rfl
        | false => exact absurd (by rw [z]; rfl) e
      rw [if_neg (by rw [e1]; decide)] at q
      have hl := juice_le e1
      exact ⟨_, rfl, _, rfl, s, o, rfl, hl.1, hl.2, _, rfl, _, rfl, s, o, rfl, (by show 2 ≤ sizeLine; decide), fun p hp => q _ p upd_same⟩
end
/-! ### what the top has written -/
theorem all_mk {P : Program} {w : World} {K : PySem.W.Frag} {h : Heap} {mg : Str → Option Value} {fa f1 f2 f3 f4 : Addr} (X : K.In h) (G : h.Ns mainGlobals mg) (hfa : mg "purity" = some (.ref fa))
    {od1 an1 : Option Addr} {sl1 : Array (Option Value)} {oc1 kV1 dc1 pm1 cd1 ct1 : Value} {od2 an2 : Option Addr} {sl2 : Array (Option Value)} {oc2 kV2 dc2 pm2 cd2 ct2 : Value} {od3 an3 : Option Addr} {sl3 : Array (Option Value)} {oc3 kV3 dc3 pm3 cd3 ct3 : Value} {od4 an4 : Option Addr} {sl4 : Array (Option Value)} {oc4 kV4 dc4 pm4 cd4 ct4 : Value} {t_MOST_KILOGRAMS : _} {t_REFUSED : _} {t_WHOLE : _}
    (a1 : PySem.W.nsIn K mainGlobals "is_juice" = some (some (.ref f1)))
    (l1 : K.lookup f1 = some ⟨oc1, od1, .func (PySem.W.fnOf "is_juice" "is_juice" (defArgs s_is_juice) (defBody s_is_juice) (defScope s_is_juice) .none kV1 dc1 pm1 an1 cd1 ct1), sl1⟩)
    (c1 : PySem.W.codeIn K cd1 "is_juice" = true)
    (k1 : PySem.W.keepIn K (.ref f1) = true)
    (a2 : PySem.W.nsIn K mainGlobals "purity_of" = some (some (.ref f2)))
    (l2 : K.lookup f2 = some ⟨oc2, od2, .func (PySem.W.fnOf "purity_of" "purity_of" (defArgs s_purity_of) (defBody s_purity_of) (defScope s_purity_of) .none kV2 dc2 pm2 an2 cd2 ct2), sl2⟩)
    (c2 : PySem.W.codeIn K cd2 "purity_of" = true)
    (k2 : PySem.W.keepIn K (.ref f2) = true)
    (a3 : PySem.W.nsIn K mainGlobals "had_of" = some (some (.ref f3)))
    (l3 : K.lookup f3 = some ⟨oc3, od3, .func (PySem.W.fnOf "had_of" "had_of" (defArgs s_had_of) (defBody s_had_of) (defScope s_had_of) .none kV3 dc3 pm3 an3 cd3 ct3), sl3⟩)
    (c3 : PySem.W.codeIn K cd3 "had_of" = true)
    (k3 : PySem.W.keepIn K (.ref f3) = true)
    (a4 : PySem.W.nsIn K mainGlobals "purity" = some (some (.ref f4)))
    (l4 : K.lookup f4 = some ⟨oc4, od4, .func (PySem.W.fnOf "purity" "purity" (defArgs s_purity) (defBody s_purity) (defScope s_purity) .none kV4 dc4 pm4 an4 cd4 ct4), sl4⟩)
    (c4 : PySem.W.codeIn K cd4 "purity" = true)
    (k4 : PySem.W.keepIn K (.ref f4) = true)
    (g_MOST_KILOGRAMS : PySem.W.nsIn K mainGlobals "MOST_KILOGRAMS" = some (some (.int 1000000 t_MOST_KILOGRAMS)))
    (g_REFUSED : PySem.W.nsIn K mainGlobals "REFUSED" = some (some (.int (-22) t_REFUSED)))
    (g_WHOLE : PySem.W.nsIn K mainGlobals "WHOLE" = some (some (.int 10000 t_WHOLE)))
    (n_max : PySem.W.nsIn K mainGlobals "max" = some none)
    : ∃ fd : FuncData, (∀ (s : Shared) (us : List Value), us.length = (["sugar", "other"] : List Str).length → BindsTo s fd ⟨us, []⟩ ((["sugar", "other"] : List Str).zip us)) ∧ ∀ base : Heap, K.In base → base.Ns mainGlobals mg → FnOk P w K mg base CX0 2 fa fd ["sugar", "other"] (sp_purity K) := by
  have e := hfa.symm.trans (PySem.W.mg_of X G a4)
  cases e
  have F1 := fun_mk (st := s_is_juice) l1 c1 k1
  have b1 := F1.binds (ps := ["sugar", "other"]) fun _ _ _ _ _ _ us hl => match us, hl with | [_, _], _ => rfl
  have F2 := fun_mk (st := s_purity_of) l2 c2 k2
  have b2 := F2.binds (ps := ["sugar", "other"]) fun _ _ _ _ _ _ us hl => match us, hl with | [_, _], _ => rfl
  have F3 := fun_mk (st := s_had_of) l3 c3 k3
  have b3 := F3.binds (ps := ["sugar", "other"]) fun _ _ _ _ _ _ us hl => match us, hl with | [_, _], _ => rfl
  have F4 := fun_mk (st := s_purity) l4 c4 k4
  have b4 := F4.binds (ps := ["sugar", "other"]) fun _ _ _ _ _ _ us hl => match us, hl with | [_, _], _ => rfl
  have c_MOST_KILOGRAMS := PySem.W.mg_of X G g_MOST_KILOGRAMS
  have c_REFUSED := PySem.W.mg_of X G g_REFUSED
  have c_WHOLE := PySem.W.mg_of X G g_WHOLE
  have z_max := PySem.W.mg_none_of X G n_max
  refine ⟨PySem.W.fnOf "purity" "purity" (defArgs s_purity) (defBody s_purity) (defScope s_purity) .none kV4 dc4 pm4 an4 cd4 ct4, fun s us hu => match us, hu with | [_, _], _ => .of_eq rfl, fun base _ _ => ?_⟩
  have h_is_juice : Has P w K mg base "is_juice" 1 ["sugar", "other"] sp_is_juice f1 _ := ⟨ok_is_juice F1 c_MOST_KILOGRAMS, PySem.W.mg_of X G a1, k1, b1⟩
  have h_purity_of : Has P w K mg base "purity_of" 1 ["sugar", "other"] sp_purity_of f2 _ := ⟨ok_purity_of F2 c_WHOLE, PySem.W.mg_of X G a2, k2, b2⟩
  have h_had_of : Has P w K mg base "had_of" 1 ["sugar", "other"] sp_had_of f3 _ := ⟨ok_had_of F3 z_max, PySem.W.mg_of X G a3, k3, b3⟩
  exact ok_purity F4 c_REFUSED h_is_juice h_purity_of h_had_of
end Jf
open PySem PySem.W PyProof.Rows
set_option maxRecDepth 100000 in
set_option maxHeartbeats 0 in
theorem PySem.Challenge.cw_juicefilters_s01_purity_holds : PySem.Challenge.rw_juicefilters_s01_purity.Holds := by
  w_on; k_headS; (case hw => exact ⟨[.int 0, .int 0], by decide +kernel, by decide +kernel⟩)
  k_fillS
  refine L2.walk_specK (r := PySem.Challenge.rw_juicefilters_s01_purity) (k := 2) (CX := L2.CX0) (ps := ["sugar", "other"]) (sp := fun K => (Jf.sp_purity K)) (by decide +kernel) rfl rfl ⟨rfl, by decide, by decide⟩ (fun w h Y => PySem.W.kIn_of Y) ?F ?S (fun _ _ _ _ z => z)
  case F =>
    intro w mg fa h Y KX G hmg
    refine' Jf.all_mk KX G hmg ?a1 ?l1 ?c1 ?k1 ?a2 ?l2 ?c2 ?k2 ?a3 ?l3 ?c3 ?k3 ?a4 ?l4 ?c4 ?k4 ?g_MOST_KILOGRAMS ?g_REFUSED ?g_WHOLE ?n_max
    (case a1 => k_is); (case l1 => k_is); (case c1 => k_is); (case k1 => k_is); (case a2 => k_is); (case l2 => k_is)
    (case c2 => k_is); (case k2 => k_is); (case a3 => k_is); (case l3 => k_is); (case c3 => k_is); (case k3 => k_is)
    (case a4 => k_is); (case l4 => k_is); (case c4 => k_is); (case k4 => k_is); (case g_MOST_KILOGRAMS => k_is); (case g_REFUSED => k_is)
    (case g_WHOLE => k_is); (case n_max => k_is)
  case S =>
    intro K H xs a hO hwi hask hx
    obtain ⟨a1, a2, u⟩ := a
    have q : (Codec.inInt 0 4294967295 a1 && (Codec.inInt 0 4294967295 a2 && true)) = true := hwi
    rw [Bool.and_eq_true, Bool.and_eq_true] at q
    have q1 := (Codec.inInt_iff.mp q.1).1
    have q2 := (Codec.inInt_iff.mp q.2.1).1
    obtain ⟨s, rfl⟩ : ∃ s : Nat, a1 = (s : Int) := ⟨a1.toNat, (Int.toNat_of_nonneg q1).symm⟩
    obtain ⟨o, rfl⟩ : ∃ o : Nat, a2 = (o : Int) := ⟨a2.toNat, (Int.toNat_of_nonneg q2).symm⟩
    cases hx with
    | cons h1 h2 =>
      cases h2 with
      | cons h3 h4 =>
        cases h4
        cases h1
        cases h3
        exact ⟨s, o, rfl, fun H' p hp => .lst (L2.SqL.of hp) (L2.dw_ints _)⟩
#print axioms PySem.Challenge.cw_juicefilters_s01_purity_holds
