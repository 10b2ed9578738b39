import PyProof.Rows.All
import Wide.All
import OpenK.AllK
import Wide.FinOn
import Open.SpecLaws
import KE.OsHead
import KE.OsGo
import HandS.ForSpec
import HandS.Comp
import HandS.Iter
import HandS.Walk
import PySem.Challenge.RW_juicefilters_s03_best_lime
set_option Elab.async false
set_option linter.all false
set_option maxRecDepth 100000
set_option maxHeartbeats 4000000
namespace Jf
open PySem PySem.Spec PyProof.Rows L2
open PySem.W (Codec)
/-! ### the text by places -/
def topS (i : Nat) : Stmt := PySem.Challenge.pw_juicefilters_s03_best_lime.main.body.getD i (.Pass ⟨0, 0, 0, 0⟩)
abbrev s_is_juice : Stmt := topS 4
theorem sc_is_juice : FnScope ["sugar", "other"] ["sugar", "other"] (defScope s_is_juice) := ⟨rfl, rfl, rfl, by decide +kernel, rfl, by decide +kernel, by decide +kernel⟩
abbrev s_had_of : Stmt := topS 9
theorem sc_had_of : FnScope ["sugar", "other"] ["sugar", "other"] (defScope s_had_of) := ⟨rfl, rfl, rfl, by decide +kernel, rfl, by decide +kernel, by decide +kernel⟩
abbrev s_sugar_limed : Stmt := topS 10
theorem sc_sugar_limed : FnScope ["sugar", "x"] ["sugar", "x"] (defScope s_sugar_limed) := ⟨rfl, rfl, rfl, by decide +kernel, rfl, by decide +kernel, by decide +kernel⟩
abbrev s_other_limed : Stmt := topS 11
theorem sc_other_limed : FnScope ["other", "x"] ["other", "x"] (defScope s_other_limed) := ⟨rfl, rfl, rfl, by decide +kernel, rfl, by decide +kernel, by decide +kernel⟩
abbrev s_had_limed : Stmt := topS 12
theorem sc_had_limed : FnScope ["sugar", "other", "x"] ["sugar", "other", "x"] (defScope s_had_limed) := ⟨rfl, rfl, rfl, by decide +kernel, rfl, by decide +kernel, by decide +kernel⟩
abbrev s_best_of_limes : Stmt := topS 13
theorem sc_best_of_limes : FnScope ["sugar", "other", "best", "x"] ["sugar", "other"] (defScope s_best_of_limes) := ⟨rfl, rfl, rfl, by decide +kernel, rfl, by decide +kernel, by decide +kernel⟩
abbrev s_best_lime : Stmt := topS 15
theorem sc_best_lime : FnScope ["sugar", "other", "x"] ["sugar", "other"] (defScope s_best_lime) := ⟨rfl, rfl, rfl, by decide +kernel, rfl, by decide +kernel, by decide +kernel⟩
/-! ### the mathematics -/
theorem juice_in {s o : Nat} (h : ((s : Nat) : Int) ≤ 1000000) : Kzb4.okJuice ⟨s, o⟩ = decide (((o : Nat) : Int) ≤ 1000000) := by
  unfold Kzb4.okJuice Kzb4.most
  rw [decide_eq_true (show s ≤ 1000000 by omega), Bool.true_and]
  exact decide_eq_decide.mpr (by show o ≤ 1000000 ↔ _; omega)
theorem juice_out {s o : Nat} (h : ¬ ((s : Nat) : Int) ≤ 1000000) : Kzb4.okJuice ⟨s, o⟩ = false := by
  unfold Kzb4.okJuice Kzb4.most
  rw [decide_eq_false (show ¬ s ≤ 1000000 by omega)]
  rfl
theorem juice_le {s o : Nat} (h : Kzb4.okJuice ⟨s, o⟩ = true) : s ≤ 1000000 ∧ o ≤ 1000000 := by
  unfold Kzb4.okJuice Kzb4.most at h
  rw [Bool.and_eq_true] at h
  exact ⟨of_decide_eq_true h.1, of_decide_eq_true h.2⟩
theorem had_is (s o : Nat) : (if ((s : Nat) : Int) - 3 * ((o : Nat) : Int) / 2 > 0 then ((s : Nat) : Int) - 3 * ((o : Nat) : Int) / 2 else 0) = ((Kzb4.had ⟨s, o⟩ : Nat) : Int) := by
  unfold Kzb4.had
  show _ = ((s - o * 3 / 2 : Nat) : Int)
  split <;> omega
theorem purity_pos {s o : Nat} (h : ¬ ((s : Nat) : Int) + ((o : Nat) : Int) = 0) : ((s : Nat) : Int) * 10000 / (((s : Nat) : Int) + ((o : Nat) : Int)) = ((Kzb4.purity ⟨s, o⟩ : Nat) : Int) := by
  unfold Kzb4.purity
  rw [if_neg (show ¬ (s + o = 0) by omega)]
  show _ = ((s * 10000 / (s + o) : Nat) : Int)
  rw [Int.natCast_ediv, Int.natCast_mul, Int.natCast_add]
  rfl
theorem purity_zero {s o : Nat} (h : ((s : Nat) : Int) + ((o : Nat) : Int) = 0) : Kzb4.purity ⟨s, o⟩ = 0 := by
  unfold Kzb4.purity
  rw [if_pos (show s + o = 0 by omega)]
theorem sugar_is {s x : Nat} (hx : x ≤ 300) : (s : Int) - (s : Int) * (x : Int) / 100000 = ((s - s * x / 100000 : Nat) : Int) := by
  have h0 : s * x ≤ 100000 * s := by
    rw [Nat.mul_comm 100000 s]
    exact Nat.mul_le_mul_left s (by omega)
  have h1 : s * x / 100000 ≤ s := Nat.div_le_of_le_mul h0
  rw [Int.natCast_sub h1, Int.natCast_ediv, Int.natCast_mul]
  rfl
theorem min_is (x : Nat) : (if (200 : Int) < (x : Int) then 200 else (x : Int)) = ((min x 200 : Nat) : Int) := by
  split <;> omega
theorem other_is (o x : Nat) : (o : Int) - (o : Int) * (if (200 : Int) < (x : Int) then 200 else (x : Int)) / 500 = ((o - o * min x 200 / 500 : Nat) : Int) := by
  have h0 : o * min x 200 ≤ 500 * o := by
    rw [Nat.mul_comm 500 o]
    exact Nat.mul_le_mul_left o (by omega)
  have h1 : o * min x 200 / 500 ≤ o := Nat.div_le_of_le_mul h0
  rw [min_is, Int.natCast_sub h1, Int.natCast_ediv, Int.natCast_mul]
  rfl
def limeOn (s o : Nat) (i : Nat) : Nat := (List.range i).foldl (fun b x => if Kzb4.had (Kzb4.limed ⟨s, o⟩ b) < Kzb4.had (Kzb4.limed ⟨s, o⟩ x) then x else b) 0
theorem limeOn_zero (s o : Nat) : limeOn s o 0 = 0 := rfl
theorem limeOn_succ (s o i : Nat) : limeOn s o (i + 1) = if Kzb4.had (Kzb4.limed ⟨s, o⟩ (limeOn s o i)) < Kzb4.had (Kzb4.limed ⟨s, o⟩ i) then i else limeOn s o i := by
  unfold limeOn
  rw [List.range_succ, List.foldl_append]
  rfl
theorem limeOn_le (s o : Nat) : ∀ i, limeOn s o i ≤ i
  | 0 => Nat.le_refl _
  | i + 1 => by
    rw [limeOn_succ]
    have ih := limeOn_le s o i
    split <;> omega
/-! ### a def that may be called by its name -/
structure Has (P : Program) (w : World) (K : PySem.W.Frag) (mg : Str → Option Value) (base : Heap) (x : Str) (k : Nat) (ps : List Str) (sp : Sp) (f : Addr) (fd : FuncData) : Prop where
  ok : FnOk P w K mg base CX0 k f fd ps sp
  at_ : mg x = some (.ref f)
  kp : PySem.W.keepIn K (.ref f) = true
  bd : Binds K fd ps []
theorem pe_has {X : Cx} {x : Str} {k : Nat} {ps : List Str} {sp : Sp} {f : Addr} {fd : FuncData} {e : Expr} {es : List Expr} {t : TA} {p pos : Pos} (G : Has X.prog X.w X.K X.mg X.base x k ps sp f fd) (hr : Room k X.A) (ha : PA X (e :: es) t) (hg : Gl X x := by rfl)
    (hdb : (x == ("__debug__" : Str)) = false := by decide) (he : starEach (e :: es) X.env = (false, eval e X.env) :: starEach es X.env := by rfl) (hpl : (backTo pos (starEach es X.env)).any (·.1) = false := by rfl) :
    PE X (.Call (.Name x p) (e :: es) [] pos) (tCall sp [] E0 t) := pe_call G.ok hr hg G.at_ G.kp G.bd .nil pass0 ha hdb he hpl
theorem pe_num {X : Cx} {x : Str} {i : Int} {t} {pos : Pos} (hm : X.mg x = some (.int i t)) (hg : Gl X x := by rfl) (hd : (x == ("__debug__" : Str)) = false := by decide) : PE X (.Name x pos) (tC (.int i)) := pe_glob hg hm ⟨t, rfl⟩ hd
theorem same_upd {H : Hp} {p : Addr} {o : HO} (h : H p = none) : Same H (upd H p o) := fun b x e => by
  rw [upd_ne (ne_of_none e h)]
  exact e
section
variable {P : Program} {w : World} {K : PySem.W.Frag} {mg : Str → Option Value} {base : Heap}
/-! ### is_juice -/
def sp_is_juice : Sp := fun vs H Q _ => ∃ s o : Nat, vs = [.int s, .int o] ∧ Q (.bl (Kzb4.okJuice ⟨s, o⟩)) H
theorem ok_is_juice {f : Addr} {fd : FuncData} (F : Fun K "is_juice" "is_juice" s_is_juice f fd) {t_MOST_KILOGRAMS : _} (c_MOST_KILOGRAMS : mg "MOST_KILOGRAMS" = some (.int 1000000 t_MOST_KILOGRAMS)) : FnOk P w K mg base CX0 1 f fd ["sugar", "other"] sp_is_juice := by
  refine F.ok sc_is_juice (fun vs H Q E h => ?_) (fun cdv A outer s H vs Q E hr h => ?_)
  · obtain ⟨s, o, rfl, _⟩ := h
    rfl
  · obtain ⟨s, o, rfl, q⟩ := h
    refine ⟨_, pss_one (ps_ret (pe_and (pe_cmpR op_le (pv 0) (pe_num c_MOST_KILOGRAMS) (nomark _)) (pe_one (pe_cmpR op_le (pv 1) (pe_num c_MOST_KILOGRAMS) (nomark _))))), ?_⟩
    refine ⟨_, rfl, _, _, rfl, rfl, _, rfl, ite2 (fun e => ?_) (fun e => ?_)⟩
    · rw [juice_in (of_decide_eq_true e)] at q
      exact ⟨_, rfl, _, _, rfl, rfl, q⟩
    · rw [juice_out (fun z => e (decide_eq_true z))] at q
      exact q
/-! ### had_of -/
def sp_had_of : Sp := fun vs H Q _ => ∃ s o : Nat, vs = [.int s, .int o] ∧ Q (.int ((Kzb4.had ⟨s, o⟩ : Nat) : Int)) H
theorem ok_had_of {f : Addr} {fd : FuncData} (F : Fun K "had_of" "had_of" s_had_of f fd) (z_max : mg "max" = none) : FnOk P w K mg base CX0 1 f fd ["sugar", "other"] sp_had_of := by
  refine F.ok sc_had_of (fun vs H Q E h => ?_) (fun cdv A outer s H vs Q E hr h => ?_)
  · obtain ⟨s, o, rfl, _⟩ := h
    rfl
  · obtain ⟨s, o, rfl, q⟩ := h
    refine ⟨_, pss_one (ps_ret (pe_callB (call_max2 rfl) (by rfl) z_max (by decide +kernel) (pa_cons pe_int (pa_cons (pe_op op_sub (pv 0) (pe_op op_fdiv (pe_op op_mul pe_int (pv 1)) pe_int)) pa_nil)))), ?_⟩
    rw [← had_is s o] at q
    exact ⟨_, rfl, _, rfl, _, _, rfl, rfl, .inl ⟨by decide, by decide⟩, _, _, rfl, rfl, ⟨by decide, by decide⟩, _, _, rfl, rfl, _, _, rfl, q⟩
/-! ### sugar_limed -/
def sp_sugar_limed : Sp := fun vs H Q _ => ∃ s x : Nat, vs = [.int s, .int x] ∧ x ≤ 300 ∧ Q (.int ((s - s * x / 100000 : Nat) : Int)) H
theorem ok_sugar_limed {f : Addr} {fd : FuncData} (F : Fun K "sugar_limed" "sugar_limed" s_sugar_limed f fd) {t_SUGAR_PARTS : _} (c_SUGAR_PARTS : mg "SUGAR_PARTS" = some (.int 100000 t_SUGAR_PARTS)) : FnOk P w K mg base CX0 1 f fd ["sugar", "x"] sp_sugar_limed := by
  refine F.ok sc_sugar_limed (fun vs H Q E h => ?_) (fun cdv A outer s H vs Q E hr h => ?_)
  · obtain ⟨s, x, rfl, _⟩ := h
    rfl
  · obtain ⟨s, x, rfl, hx, q⟩ := h
    rw [← sugar_is hx] at q
    exact ⟨_, pss_one (ps_ret (pe_op op_sub (pv 0) (pe_op op_fdiv (pe_op op_mul (pv 0) (pv 1)) (pe_num c_SUGAR_PARTS)))),
      _, rfl, _, rfl, _, rfl, _, _, rfl, rfl, .inr ⟨by omega, by omega⟩, _, _, rfl, rfl, ⟨by decide, by decide⟩, _, _, rfl, rfl, q⟩
/-! ### other_limed -/
def sp_other_limed : Sp := fun vs H Q _ => ∃ o x : Nat, vs = [.int o, .int x] ∧ Q (.int ((o - o * min x 200 / 500 : Nat) : Int)) H
theorem ok_other_limed {f : Addr} {fd : FuncData} (F : Fun K "other_limed" "other_limed" s_other_limed f fd) {t_OTHER_PARTS : _} (c_OTHER_PARTS : mg "OTHER_PARTS" = some (.int 500 t_OTHER_PARTS)) {t_MOST_TAKEN : _} (c_MOST_TAKEN : mg "MOST_TAKEN" = some (.int 200 t_MOST_TAKEN)) (z_min : mg "min" = none) : FnOk P w K mg base CX0 1 f fd ["other", "x"] sp_other_limed := by
  refine F.ok sc_other_limed (fun vs H Q E h => ?_) (fun cdv A outer s H vs Q E hr h => ?_)
  · obtain ⟨o, x, rfl, _⟩ := h
    rfl
  · obtain ⟨o, x, rfl, q⟩ := h
    rw [← other_is o x] at q
    refine ⟨_, pss_one (ps_ret (pe_op op_sub (pv 0) (pe_op op_fdiv (pe_op op_mul (pv 0) (pe_callB (call_min2 rfl) (by rfl) z_min (by decide +kernel) (pa_cons (pv 1) (pa_cons (pe_num c_MOST_TAKEN) pa_nil)))) (pe_num c_OTHER_PARTS)))), ?_⟩
    exact ⟨_, rfl, _, rfl, _, rfl, _, _, rfl, _, _, rfl, rfl, .inr ⟨by split <;> omega, by split <;> omega⟩, _, _, rfl, rfl, ⟨by decide, by decide⟩, _, _, rfl, rfl, q⟩
/-! ### had_limed -/
def sp_had_limed : Sp := fun vs H Q _ => ∃ s o x : Nat, vs = [.int s, .int o, .int x] ∧ x ≤ 300 ∧ Q (.int ((Kzb4.had (Kzb4.limed ⟨s, o⟩ x) : Nat) : Int)) H
theorem ok_had_limed {f : Addr} {fd : FuncData} (F : Fun K "had_limed" "had_limed" s_had_limed f fd) {f_had_of : Addr} {fd_had_of : FuncData} (h_had_of : Has P w K mg base "had_of" 1 ["sugar", "other"] sp_had_of f_had_of fd_had_of) {f_sugar_limed : Addr} {fd_sugar_limed : FuncData} (h_sugar_limed : Has P w K mg base "sugar_limed" 1 ["sugar", "x"] sp_sugar_limed f_sugar_limed fd_sugar_limed) {f_other_limed : Addr} {fd_other_limed : FuncData} (h_other_limed : Has P w K mg base "other_limed" 1 ["other", "x"] sp_other_limed f_other_limed fd_other_limed) : FnOk P w K mg base CX0 2 f fd ["sugar", "other", "x"] sp_had_limed := by
  refine F.ok sc_had_limed (fun vs H Q E h => ?_) (fun cdv A outer s H vs Q E hr h => ?_)
  · obtain ⟨s, o, x, rfl, _⟩ := h
    rfl
  · obtain ⟨s, o, x, rfl, hx, q⟩ := h
    have hr1 : Room 1 _ := hr.mono (by decide)
    exact ⟨_, pss_one (ps_ret (pe_has h_had_of hr1 (pa_cons (pe_has h_sugar_limed hr1 (pa_cons (pv 0) (pa_cons (pv 2) pa_nil))) (pa_cons (pe_has h_other_limed hr1 (pa_cons (pv 1) (pa_cons (pv 2) pa_nil))) pa_nil)))),
      _, rfl, _, rfl, s, x, rfl, hx, _, rfl, _, rfl, o, x, rfl, _, _, rfl, q⟩
/-! ### best_of_limes -/
def sp_best_of_limes : Sp := fun vs H Q _ => ∃ s o : Nat, vs = [.int s, .int o] ∧ Q (.int ((limeOn s o 301 : Nat) : Int)) H
theorem ok_best_of_limes {f : Addr} {fd : FuncData} (F : Fun K "best_of_limes" "best_of_limes" s_best_of_limes f fd) {t_MOST_LIME : _} (c_MOST_LIME : mg "MOST_LIME" = some (.int 300 t_MOST_LIME)) {f_had_limed : Addr} {fd_had_limed : FuncData} (h_had_limed : Has P w K mg base "had_limed" 2 ["sugar", "other", "x"] sp_had_limed f_had_limed fd_had_limed) (z_range : mg "range" = none) : FnOk P w K mg base CX0 3 f fd ["sugar", "other"] sp_best_of_limes := by
  refine F.ok sc_best_of_limes (fun vs H Q E h => ?_) (fun cdv A outer s H vs Q E hr h => ?_)
  · obtain ⟨s, o, rfl, _⟩ := h
    rfl
  · obtain ⟨s, o, rfl, q⟩ := h
    have hr1 : Room 2 _ := hr.mono (by decide)
    refine ⟨_, pss_cons (ps_set (i := 2) sc_best_of_limes.nd rfl (.inl rfl) pe_int)
      (pss_cons (ps_for PassesOwn.never rfl (pi_range1 rfl z_range (pa_cons (pe_op op_add (pe_num c_MOST_LIME) pe_int) pa_nil)) (pg_name (i := 3) sc_best_of_limes.nd rfl (.inl rfl))
        (pss_one (ps_if (pt_cmpR op_gt (pe_has h_had_limed hr1 (pa_cons (pv 0) (pa_cons (pv 1) (pa_cons (pv 3) pa_nil)))) (pe_has h_had_limed hr1 (pa_cons (pv 0) (pa_cons (pv 1) (pa_cons (pv 2) pa_nil)))) (nomark _))
          (pss_one (ps_set (i := 2) sc_best_of_limes.nd rfl (.inl rfl) (pv 3))) pss_nil)))
      (pss_one (ps_ret (pv 2)))), ?_⟩
    refine ⟨_, _, rfl, rfl, 301, rfl, by decide, by decide, for_range (lo := 0) (n := 301) (fun i σ H' => ∃ v : Option V, σ = [some (.int s), some (.int o), some (.int ((limeOn s o i : Nat) : Int)), v] ∧ H' = H) ⟨none, rfl, rfl⟩ ?_ ?_⟩
    · rintro i σ H' hi ⟨v, rfl, rfl⟩
      have hb := limeOn_le s o i
      have e0 : (0 : Int) + (i : Int) = (i : Int) := Int.zero_add _
      rw [e0]
      refine ⟨_, rfl, _, rfl, _, rfl, s, o, i, rfl, by omega, _, rfl, _, rfl, _, rfl, s, o, limeOn s o i, rfl, by omega, _, _, rfl, rfl, _, rfl, ite2 (fun e => ?_) (fun e => ?_)⟩
      · have e1 := Int.ofNat_lt.mp (of_decide_eq_true e)
        refine ⟨_, rfl, some (.int i), ?_, rfl⟩
        rw [limeOn_succ, if_pos e1]
        rfl
      · have e1 : ¬ Kzb4.had (Kzb4.limed ⟨s, o⟩ (limeOn s o i)) < Kzb4.had (Kzb4.limed ⟨s, o⟩ i) := fun z => e (decide_eq_true (Int.ofNat_lt.mpr z))
        refine ⟨some (.int i), ?_, rfl⟩
        rw [limeOn_succ, if_neg e1]
        rfl
    · rintro σ H' ⟨v, rfl, rfl⟩
      exact ⟨_, rfl, q⟩
/-! ### best_lime -/
theorem ans_best_lime (s o : Nat) : PyKzb4.best_lime s o = if Kzb4.okJuice ⟨s, o⟩ = false then [-22] else [((limeOn s o 301 : Nat) : Int), ((Kzb4.had (Kzb4.limed ⟨s, o⟩ (limeOn s o 301)) : Nat) : Int)] := by
  show ((Kzb4.answer (.bestLime s o)).value :: Kzb4Neutral.ints (Kzb4.answer (.bestLime s o)).nums) = _
  unfold Kzb4.answer
  dsimp only
  split <;> rfl
def sp_best_lime (K : PySem.W.Frag) : Sp := fun vs H Q _ => ∃ s o : Nat, vs = [.int s, .int o] ∧ ∀ (H' : Hp) (p : Addr), H' p = some (.lst ((PyKzb4.best_lime s o).map V.int)) → Q (.ref p) H'
theorem ok_best_lime {f : Addr} {fd : FuncData} (F : Fun K "best_lime" "best_lime" s_best_lime f fd) {t_REFUSED : _} (c_REFUSED : mg "REFUSED" = some (.int (-22) t_REFUSED)) {f_is_juice : Addr} {fd_is_juice : FuncData} (h_is_juice : Has P w K mg base "is_juice" 1 ["sugar", "other"] sp_is_juice f_is_juice fd_is_juice) {f_best_of_limes : Addr} {fd_best_of_limes : FuncData} (h_best_of_limes : Has P w K mg base "best_of_limes" 3 ["sugar", "other"] sp_best_of_limes f_best_of_limes fd_best_of_limes) {f_had_limed : Addr} {fd_had_limed : FuncData} (h_had_limed : Has P w K mg base "had_limed" 2 ["sugar", "other", "x"] sp_had_limed f_had_limed fd_had_limed) : FnOk P w K mg base CX0 4 f fd ["sugar", "other"] (sp_best_lime K) := by
  refine F.ok sc_best_lime (fun vs H Q E h => ?_) (fun cdv A outer s H vs Q E hr h => ?_)
  · obtain ⟨s, o, rfl, _⟩ := h
    rfl
  · obtain ⟨s, o, rfl, q⟩ := h
    rw [ans_best_lime] at q
    have hr1 : Room 1 _ := hr.mono (by decide)
    have hr2 : Room 2 _ := hr.mono (by decide)
    have hr3 : Room 3 _ := hr.mono (by decide)
    refine ⟨_, pss_cons (ps_if (pt_not (pt_val (pe_has h_is_juice hr1 (pa_cons (pv 0) (pa_cons (pv 1) pa_nil))))) (pss_one (ps_ret (pe_lst (pa_cons (pe_num c_REFUSED) pa_nil)))) pss_nil)
      (pss_cons (ps_set (i := 2) sc_best_lime.nd rfl (.inl rfl) (pe_has h_best_of_limes hr3 (pa_cons (pv 0) (pa_cons (pv 1) pa_nil))))
      (pss_one (ps_ret (pe_lst (pa_cons (pv 2) (pa_cons (pe_has h_had_limed hr2 (pa_cons (pv 0) (pa_cons (pv 1) (pa_cons (pv 2) pa_nil)))) pa_nil)))))), ?_⟩
    refine ⟨_, rfl, _, rfl, s, o, rfl, _, rfl, ite2 (fun e => ?_) (fun e => ?_)⟩
    · rw [Bool.not_eq_true'] at e
      rw [if_pos e] at q
      exact ⟨(by show 1 ≤ sizeLine; decide), fun p hp => q _ p upd_same⟩
    · have e1 : Kzb4.okJuice ⟨s, o⟩ = true := by
        cases z : Kzb4.okJuice ⟨s, o⟩ with
        | true => rfl
        | false => exact absurd (by rw [z]; rfl) e
      rw [if_neg (by rw [e1]; decide)] at q
      have hb : limeOn s o 301 ≤ 300 := by
        have h := limeOn_le s o 300
        rw [limeOn_succ s o 300]
        split
        · exact Nat.le_refl _
        · exact h
      exact ⟨_, rfl, _, rfl, s, o, rfl, _, rfl, _, rfl, _, rfl, _, rfl, s, o, limeOn s o 301, rfl, hb, (by show 2 ≤ sizeLine; decide), fun p hp => q _ p upd_same⟩
end
/-! ### what the top has written -/
theorem all_mk {P : Program} {w : World} {K : PySem.W.Frag} {h : Heap} {mg : Str → Option Value} {fa f1 f2 f3 f4 f5 f6 f7 : Addr} (X : K.In h) (G : h.Ns mainGlobals mg) (hfa : mg "best_lime" = some (.ref fa))
    {od1 an1 : Option Addr} {sl1 : Array (Option Value)} {oc1 kV1 dc1 pm1 cd1 ct1 : Value} {od2 an2 : Option Addr} {sl2 : Array (Option Value)} {oc2 kV2 dc2 pm2 cd2 ct2 : Value} {od3 an3 : Option Addr} {sl3 : Array (Option Value)} {oc3 kV3 dc3 pm3 cd3 ct3 : Value} {od4 an4 : Option Addr} {sl4 : Array (Option Value)} {oc4 kV4 dc4 pm4 cd4 ct4 : Value} {od5 an5 : Option Addr} {sl5 : Array (Option Value)} {oc5 kV5 dc5 pm5 cd5 ct5 : Value} {od6 an6 : Option Addr} {sl6 : Array (Option Value)} {oc6 kV6 dc6 pm6 cd6 ct6 : Value} {od7 an7 : Option Addr} {sl7 : Array (Option Value)} {oc7 kV7 dc7 pm7 cd7 ct7 : Value} {t_MOST_KILOGRAMS : _} {t_MOST_LIME : _} {t_MOST_TAKEN : _} {t_OTHER_PARTS : _} {t_REFUSED : _} {t_SUGAR_PARTS : _}
    (a1 : PySem.W.nsIn K mainGlobals "is_juice" = some (some (.ref f1)))
    (l1 : K.lookup f1 = some ⟨oc1, od1, .func (PySem.W.fnOf "is_juice" "is_juice" (defArgs s_is_juice) (defBody s_is_juice) (defScope s_is_juice) .none kV1 dc1 pm1 an1 cd1 ct1), sl1⟩)
    (c1 : PySem.W.codeIn K cd1 "is_juice" = true)
    (k1 : PySem.W.keepIn K (.ref f1) = true)
    (a2 : PySem.W.nsIn K mainGlobals "had_of" = some (some (.ref f2)))
    (l2 : K.lookup f2 = some ⟨oc2, od2, .func (PySem.W.fnOf "had_of" "had_of" (defArgs s_had_of) (defBody s_had_of) (defScope s_had_of) .none kV2 dc2 pm2 an2 cd2 ct2), sl2⟩)
    (c2 : PySem.W.codeIn K cd2 "had_of" = true)
    (k2 : PySem.W.keepIn K (.ref f2) = true)
    (a3 : PySem.W.nsIn K mainGlobals "sugar_limed" = some (some (.ref f3)))
    (l3 : K.lookup f3 = some ⟨oc3, od3, .func (PySem.W.fnOf "sugar_limed" "sugar_limed" (defArgs s_sugar_limed) (defBody s_sugar_limed) (defScope s_sugar_limed) .none kV3 dc3 pm3 an3 cd3 ct3), sl3⟩)
    (c3 : PySem.W.codeIn K cd3 "sugar_limed" = true)
    (k3 : PySem.W.keepIn K (.ref f3) = true)
    (a4 : PySem.W.nsIn K mainGlobals "other_limed" = some (some (.ref f4)))
    (l4 : K.lookup f4 = some ⟨oc4, od4, .func (PySem.W.fnOf "other_limed" "other_limed" (defArgs s_other_limed) (defBody s_other_limed) (defScope s_other_limed) .none kV4 dc4 pm4 an4 cd4 ct4), sl4⟩)
    (c4 : PySem.W.codeIn K cd4 "other_limed" = true)
    (k4 : PySem.W.keepIn K (.ref f4) = true)
    (a5 : PySem.W.nsIn K mainGlobals "had_limed" = some (some (.ref f5)))
    (l5 : K.lookup f5 = some ⟨oc5, od5, .func (PySem.W.fnOf "had_limed" "had_limed" (defArgs s_had_limed) (defBody s_had_limed) (defScope s_had_limed) .none kV5 dc5 pm5 an5 cd5 ct5), sl5⟩)
    (c5 : PySem.W.codeIn K cd5 "had_limed" = true)
    (k5 : PySem.W.keepIn K (.ref f5) = true)
    (a6 : PySem.W.nsIn K mainGlobals "best_of_limes" = some (some (.ref f6)))
    (l6 : K.lookup f6 = some ⟨oc6, od6, .func (PySem.W.fnOf "best_of_limes" "best_of_limes" (defArgs s_best_of_limes) (defBody s_best_of_limes) (defScope s_best_of_limes) .none kV6 dc6 pm6 an6 cd6 ct6), sl6⟩)
    (c6 : PySem.W.codeIn K cd6 "best_of_limes" = true)
    (k6 : PySem.W.keepIn K (.ref f6) = true)
    (a7 : PySem.W.nsIn K mainGlobals "best_lime" = some (some (.ref f7)))
    (l7 : K.lookup f7 = some ⟨oc7, od7, .func (PySem.W.fnOf "best_lime" "best_lime" (defArgs s_best_lime) (defBody s_best_lime) (defScope s_best_lime) .none kV7 dc7 pm7 an7 cd7 ct7), sl7⟩)
    (c7 : PySem.W.codeIn K cd7 "best_lime" = true)
    (k7 : PySem.W.keepIn K (.ref f7) = true)
    (g_MOST_KILOGRAMS : PySem.W.nsIn K mainGlobals "MOST_KILOGRAMS" = some (some (.int 1000000 t_MOST_KILOGRAMS)))
    (g_MOST_LIME : PySem.W.nsIn K mainGlobals "MOST_LIME" = some (some (.int 300 t_MOST_LIME)))
    (g_MOST_TAKEN : PySem.W.nsIn K mainGlobals "MOST_TAKEN" = some (some (.int 200 t_MOST_TAKEN)))
    (g_OTHER_PARTS : PySem.W.nsIn K mainGlobals "OTHER_PARTS" = some (some (.int 500 t_OTHER_PARTS)))
    (g_REFUSED : PySem.W.nsIn K mainGlobals "REFUSED" = some (some (.int (-22) t_REFUSED)))
    (g_SUGAR_PARTS : PySem.W.nsIn K mainGlobals "SUGAR_PARTS" = some (some (.int 100000 t_SUGAR_PARTS)))
    (n_max : PySem.W.nsIn K mainGlobals "max" = some none)
    (n_min : PySem.W.nsIn K mainGlobals "min" = some none)
    (n_range : PySem.W.nsIn K mainGlobals "range" = some none)
    : ∃ fd : FuncData, (∀ (s : Shared) (us : List Value), us.length = (["sugar", "other"] : List Str).length → BindsTo s fd ⟨us, []⟩ ((["sugar", "other"] : List Str).zip us)) ∧ ∀ base : Heap, K.In base → base.Ns mainGlobals mg → FnOk P w K mg base CX0 4 fa fd ["sugar", "other"] (sp_best_lime K) := by
  have e := hfa.symm.trans (PySem.W.mg_of X G a7)
  cases e
  have F1 := fun_mk (st := s_is_juice) l1 c1 k1
  have b1 := F1.binds (ps := ["sugar", "other"]) fun _ _ _ _ _ _ us hl => match us, hl with | [_, _], _ => rfl
  have F2 := fun_mk (st := s_had_of) l2 c2 k2
  have b2 := F2.binds (ps := ["sugar", "other"]) fun _ _ _ _ _ _ us hl => match us, hl with | [_, _], _ => rfl
  have F3 := fun_mk (st := s_sugar_limed) l3 c3 k3
  have b3 := F3.binds (ps := ["sugar", "x"]) fun _ _ _ _ _ _ us hl => match us, hl with | [_, _], _ => rfl
  have F4 := fun_mk (st := s_other_limed) l4 c4 k4
  have b4 := F4.binds (ps := ["other", "x"]) fun _ _ _ _ _ _ us hl => match us, hl with | [_, _], _ => rfl
  have F5 := fun_mk (st := s_had_limed) l5 c5 k5
  have b5 := F5.binds (ps := ["sugar", "other", "x"]) fun _ _ _ _ _ _ us hl => match us, hl with | [_, _, _], _ => rfl
  have F6 := fun_mk (st := s_best_of_limes) l6 c6 k6
  have b6 := F6.binds (ps := ["sugar", "other"]) fun _ _ _ _ _ _ us hl => match us, hl with | [_, _], _ => rfl
  have F7 := fun_mk (st := s_best_lime) l7 c7 k7
  have b7 := F7.binds (ps := ["sugar", "other"]) fun _ _ _ _ _ _ us hl => match us, hl with | [_, _], _ => rfl
  have c_MOST_KILOGRAMS := PySem.W.mg_of X G g_MOST_KILOGRAMS
  have c_MOST_LIME := PySem.W.mg_of X G g_MOST_LIME
  have c_MOST_TAKEN := PySem.W.mg_of X G g_MOST_TAKEN
  have c_OTHER_PARTS := PySem.W.mg_of X G g_OTHER_PARTS
  have c_REFUSED := PySem.W.mg_of X G g_REFUSED
  have c_SUGAR_PARTS := PySem.W.mg_of X G g_SUGAR_PARTS
  have z_max := PySem.W.mg_none_of X G n_max
  have z_min := PySem.W.mg_none_of X G n_min
  have z_range := PySem.W.mg_none_of X G n_range
  refine ⟨PySem.W.fnOf "best_lime" "best_lime" (defArgs s_best_lime) (defBody s_best_lime) (defScope s_best_lime) .none kV7 dc7 pm7 an7 cd7 ct7, fun s us hu => match us, hu with | [_, _], _ => .of_eq rfl, fun base _ _ => ?_⟩
  have h_is_juice : Has P w K mg base "is_juice" 1 ["sugar", "other"] sp_is_juice f1 _ := ⟨ok_is_juice F1 c_MOST_KILOGRAMS, PySem.W.mg_of X G a1, k1, b1⟩
  have h_had_of : Has P w K mg base "had_of" 1 ["sugar", "other"] sp_had_of f2 _ := ⟨ok_had_of F2 z_max, PySem.W.mg_of X G a2, k2, b2⟩
  have h_sugar_limed : Has P w K mg base "sugar_limed" 1 ["sugar", "x"] sp_sugar_limed f3 _ := ⟨ok_sugar_limed F3 c_SUGAR_PARTS, PySem.W.mg_of X G a3, k3, b3⟩
  have h_other_limed : Has P w K mg base "other_limed" 1 ["other", "x"] sp_other_limed f4 _ := ⟨ok_other_limed F4 c_OTHER_PARTS c_MOST_TAKEN z_min, PySem.W.mg_of X G a4, k4, b4⟩
  have h_had_limed : Has P w K mg base "had_limed" 2 ["sugar", "other", "x"] sp_had_limed f5 _ := ⟨ok_had_limed F5 h_had_of h_sugar_limed h_other_limed, PySem.W.mg_of X G a5, k5, b5⟩
  have h_best_of_limes : Has P w K mg base "best_of_limes" 3 ["sugar", "other"] sp_best_of_limes f6 _ := ⟨ok_best_of_limes F6 c_MOST_LIME h_had_limed z_range, PySem.W.mg_of X G a6, k6, b6⟩
  exact ok_best_lime F7 c_REFUSED h_is_juice h_best_of_limes h_had_limed
end Jf
open PySem PySem.W PyProof.Rows
set_option maxRecDepth 100000 in
set_option maxHeartbeats 0 in
theorem PySem.Challenge.cw_juicefilters_s03_best_lime_holds : PySem.Challenge.rw_juicefilters_s03_best_lime.Holds := by
  w_on; k_headS; (case hw => exact ⟨[.int 0, .int 0], by decide +kernel, by decide +kernel⟩)
  k_fillS
  refine L2.walk_specK (r := PySem.Challenge.rw_juicefilters_s03_best_lime) (k := 4) (CX := L2.CX0) (ps := ["sugar", "other"]) (sp := fun K => (Jf.sp_best_lime K)) (by decide +kernel) rfl rfl ⟨rfl, by decide, by decide⟩ (fun w h Y => PySem.W.kIn_of Y) ?F ?S (fun _ _ _ _ z => z)
  case F =>
    intro w mg fa h Y KX G hmg
    refine' Jf.all_mk KX G hmg ?a1 ?l1 ?c1 ?k1 ?a2 ?l2 ?c2 ?k2 ?a3 ?l3 ?c3 ?k3 ?a4 ?l4 ?c4 ?k4 ?a5 ?l5 ?c5 ?k5 ?a6 ?l6 ?c6 ?k6 ?a7 ?l7 ?c7 ?k7 ?g_MOST_KILOGRAMS ?g_MOST_LIME ?g_MOST_TAKEN ?g_OTHER_PARTS ?g_REFUSED ?g_SUGAR_PARTS ?n_max ?n_min ?n_range
    (case a1 => k_is); (case l1 => k_is); (case c1 => k_is); (case k1 => k_is); (case a2 => k_is); (case l2 => k_is)
    (case c2 => k_is); (case k2 => k_is); (case a3 => k_is); (case l3 => k_is); (case c3 => k_is); (case k3 => k_is)
    (case a4 => k_is); (case l4 => k_is); (case c4 => k_is); (case k4 => k_is); (case a5 => k_is); (case l5 => k_is)
    (case c5 => k_is); (case k5 => k_is); (case a6 => k_is); (case l6 => k_is); (case c6 => k_is); (case k6 => k_is)
    (case a7 => k_is); (case l7 => k_is); (case c7 => k_is); (case k7 => k_is); (case g_MOST_KILOGRAMS => k_is); (case g_MOST_LIME => k_is)
    (case g_MOST_TAKEN => k_is); (case g_OTHER_PARTS => k_is); (case g_REFUSED => k_is); (case g_SUGAR_PARTS => k_is); (case n_max => k_is); (case n_min => k_is)
    (case n_range => k_is)
  case S =>
    intro K H xs a hO hwi hask hx
    obtain ⟨a1, a2, u⟩ := a
    have q : (Codec.inInt 0 4294967295 a1 && (Codec.inInt 0 4294967295 a2 && true)) = true := hwi
    rw [Bool.and_eq_true, Bool.and_eq_true] at q
    have q1 := (Codec.inInt_iff.mp q.1).1
    have q2 := (Codec.inInt_iff.mp q.2.1).1
    obtain ⟨s, rfl⟩ : ∃ s : Nat, a1 = (s : Int) := ⟨a1.toNat, (Int.toNat_of_nonneg q1).symm⟩
    obtain ⟨o, rfl⟩ : ∃ o : Nat, a2 = (o : Int) := ⟨a2.toNat, (Int.toNat_of_nonneg q2).symm⟩
    cases hx with
    | cons h1 h2 =>
      cases h2 with
      | cons h3 h4 =>
        cases h4
        cases h1
        cases h3
        exact ⟨s, o, rfl, fun H' p hp => .lst (L2.SqL.of hp) (L2.dw_ints _)⟩
#print axioms PySem.Challenge.cw_juicefilters_s03_best_lime_holds
