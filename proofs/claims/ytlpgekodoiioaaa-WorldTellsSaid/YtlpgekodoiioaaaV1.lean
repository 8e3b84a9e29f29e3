/- The contracts, with less said of the owned objects: one world changes, the others stay. -/
import Derived.Test.YtlpgekodoiioaaaK2
import Derived.Test.YtlpgekodoiioaaaAc
set_option linter.unusedSimpArgs false
set_option linter.unusedVariables false
namespace Go.Proofs.Ytlpgekodoiioaaa
open Go.RowKit

/-! A skipped operation leaves 'undef': the empty tuple. -/
section
variable {P : Program} {nt : Nat} {Q : Exit → Fr → List AObj → Prop} {fr : Fr} {σ : List AObj} {ops : Array Oper} {dr : Bool} {dos ends : List Nat} {l : Trr} {i d : Nat} {o : Oper}
variable {dst : Option Tmp} {op : Op} {ty : TypeId} {pos : String} {aft : Array Edge} {gd : Option (Nat × Bool)}
theorem al_skipU (ho : ops[i]? = some o) (ht : dstOk o.dst nt = true) (hw : ∀ k x A w, Sim k x nt fr σ A w → Region.wanted o (yielded ops A.tmps) = false)
    (h : AL P nt ops dr dos ends l Q (fput o.dst (.tup []) fr) σ) : AL P nt ops dr dos ends (.one i l) Q fr σ := by
  refine ⟨fun k x A w s => ?_⟩
  have hu : ARep x (.tup []) undef := ⟨[], rfl, rfl⟩
  unfold walkW stepW
  cases hd : (dr && dos.contains i) with
  | false => exact .inl ⟨rfl, o, undef, ho, .inr ⟨hw k x A w s, rfl⟩, h.out k x _ w (s.put ht hu)⟩
  | true =>
    refine .inr ⟨by rw [Bool.and_eq_true] at hd; rw [hd.1, hd.2]; rfl, ?_⟩
    unfold wpOp
    simp only [ho, hw k x A w s]
    exact ⟨fun _ => Agree.refl w, h.out k x _ w (s.put ht hu)⟩
theorem s_skipV {j : Nat} {w : Bool} (hg : guardB ops fr (some (j, w)) = some false) (ht : Nat.blt d nt = true) (h : AL P nt ops dr dos ends l Q ((d, .tup []) :: fr) σ) : ALo P nt ops dr dos ends i ⟨some d, op, ty, pos, aft, some (j, w)⟩ l Q fr σ :=
  ⟨fun ho => al_skipU ho ht (fun k x A w s => guardA_spec s (guardB_eq hg)) h⟩
theorem s_skipU {j t : Nat} {w : Bool} (hj : guardT ops (some (j, w)) = some t) (hu : fget fr t = .tup []) (ht : Nat.blt d nt = true) (h : AL P nt ops dr dos ends l Q ((d, .tup []) :: fr) σ) : ALo P nt ops dr dos ends i ⟨some d, op, ty, pos, aft, some (j, w)⟩ l Q fr σ :=
  ⟨fun ho => al_skipU ho ht (fun k x A w2 s => by
    have h1 := s.tmps t
    rw [hu] at h1
    obtain ⟨us, e, e2⟩ := h1
    have e2 : us = [] := e2
    subst e2
    unfold Region.wanted yielded
    have hj : (ops[j]?).bind (·.dst) = some t := hj
    simp only [hj, Option.bind_some]
    rw [Array.getD_eq_getD_getElem?] at e
    cases hq : A.tmps[t]? with
    | none => rfl
    | some q => rw [hq] at e; simp only [Option.getD_some] at e; subst e; rfl) h⟩
end

theorem o_keep (ks : List Nat) {P : Program} {nt : Nat} {Q : Exit → Fr → List AObj → Prop} {fr fr' : Fr} {σ : List AObj} {ops : Array Oper} {dr : Bool} {dos ends : List Nat} {l : Trr} {i : Nat} {o : Oper} {vs : List AV}
    (hv : getO ks fr = some vs) (hf : seqL (ks.zip vs) some = some fr') (h : ALo P nt ops dr dos ends i o l Q fr' σ) : ALo P nt ops dr dos ends i o l Q fr σ := by
  rw [seqL_eq] at hf
  injection hf with hf
  subst hf
  refine ⟨fun ho => al_ghost (ghost_frame fun i => ?_) (h.out ho)⟩
  rw [getO_eq hv]; exact fget_zip ks fr i

section
variable {σ σ' : List AObj} {loc n : Nat} {W : AW}

theorem chg_keeps {o : AObj} (hl : σ[loc]? = some o) (h : Keeps σ loc W σ') : Chg σ loc (wo W) σ' := by
  have hlt := (List.getElem?_eq_some_iff.1 hl).1
  refine ⟨h.at hlt, ?_, fun k hk hk2 => ?_⟩
  · obtain ⟨τ, rfl⟩ := h; simp
  · obtain ⟨τ, rfl⟩ := h
    rw [List.getElem?_append_left (by simpa using hk2), List.getElem?_set_ne (Ne.symm hk)]

theorem open_w (name : ByteArray) (hl : σ[loc]? = some (wo W)) (ok : W.Ok n) (hn : n ≤ 100000) :
    Runs Try.prog 15 [.ptr loc 0 0, .d (.v (.string name))] σ (fun v σ' => v = .d (.tup [.v (.int .i64 (W.open_ name).1.1), .v (.bool (W.open_ name).1.2)]) ∧ Chg σ loc (wo (W.open_ name).2) σ') :=
  (open_r name hl ok hn (seqL_eq _ _)).mono fun _ _ ⟨h1, h2⟩ => ⟨h1, by subst h2; exact chg_set hl⟩
theorem read_w (x : Int) (hl : σ[loc]? = some (wo W)) (ok : W.Ok n) (hn : n ≤ 100000) :
    Runs Try.prog 23 [.ptr loc 0 0, .d (.v (.int .i64 x))] σ (fun v σ' => v = .d (.tup [.v (.int .u8 (W.read x).1.1), .v (.string (W.read x).1.2.1), .v (.int .i64 (W.read x).1.2.2)]) ∧ Chg σ loc (wo (W.read x).2) σ') :=
  (read_r x hl ok hn (seqL_eq _ _)).mono fun _ _ ⟨h1, h2⟩ => ⟨h1, by subst h2; exact chg_set hl⟩
theorem write_w (x : Int) (s : ByteArray) (hs : s.size ≤ maxLen) (hl : σ[loc]? = some (wo W)) (ok : W.Ok n) (hn : n ≤ 100000) :
    Runs Try.prog 16 [.ptr loc 0 0, .d (.v (.int .i64 x)), .d (.v (.string s))] σ (fun v σ' => v = .d (.tup [.v (.bool (W.write x s).1.1), .v (.int .i64 (W.write x s).1.2)]) ∧ Chg σ loc (wo (W.write x s).2) σ') :=
  (write_r x s hs hl ok hn (seqL_eq _ _)).mono fun _ _ ⟨h1, h2⟩ => ⟨h1, by subst h2; exact chg_set hl⟩
theorem close_w (x : Int) (hl : σ[loc]? = some (wo W)) (ok : W.Ok n) (hn : n ≤ 100000) :
    Runs Try.prog 17 [.ptr loc 0 0, .d (.v (.int .i64 x))] σ (fun v σ' => v = .d (.tup [.v (.bool (W.close x).1.1), .v (.int .i64 (W.close x).1.2)]) ∧ Chg σ loc (wo (W.close x).2) σ') :=
  (close_r x hl ok hn (seqL_eq _ _)).mono fun _ _ ⟨h1, h2⟩ => ⟨h1, by subst h2; exact chg_set hl⟩
theorem drop_w (x : Int) (hl : σ[loc]? = some (wo W)) (ok : W.Ok n) (hn : n ≤ 100000) :
    Runs Try.prog 22 [.ptr loc 0 0, .d (.v (.int .i64 x))] σ (fun v σ' => v = .d (.v (.int .i64 (W.drop x).1)) ∧ Chg σ loc (wo (W.drop x).2) σ') :=
  (drop_r x hl ok hn (seqL_eq _ _)).mono fun _ _ ⟨h1, h2⟩ => ⟨h1, by subst h2; exact chg_set hl⟩
theorem run_w (l : List ADo) (hl : σ[loc]? = some (wo W)) (ok : W.Ok n) (hn : n + l.length ≤ 100000) (hs : ∀ x ∈ l, x.s.size ≤ maxLen) :
    Runs Try.prog 20 [.ptr loc 0 0, .d (dosD l)] σ (fun v σ' => v = .tup [] ∧ Chg σ loc (wo (runW W l)) σ') :=
  (run_c l hl ok hn hs).mono fun _ _ ⟨h1, h2⟩ => ⟨h1, chg_keeps hl h2⟩
theorem trace_w (hl : σ[loc]? = some (wo W)) (ok : W.Ok n) (hn : n ≤ 100000) : Runs Try.prog 21 [.ptr loc 0 0] σ (fun v σ' => v = .d (traceD W.trace) ∧ σ' = σ) := trace_r hl (Nat.le_trans ok.trace hn)
theorem files_w (hl : σ[loc]? = some (wo W)) (ok : W.Ok n) : Runs Try.prog 26 [.ptr loc 0 0] σ (fun v σ' => v = .d (filesD W.files) ∧ σ' = σ) := files_r hl (Nat.le_trans ok.few (by omega))
theorem handles_w (hl : σ[loc]? = some (wo W)) (ok : W.Ok n) (hn : n ≤ 100000) : Runs Try.prog 28 [.ptr loc 0 0] σ (fun v σ' => v = .d (natsD (opens W.handles 0)) ∧ σ' = σ) := handles_r hl (Nat.le_trans ok.handles hn)

theorem great_p (files : List AFile) (fails : List Bool) (h : files.length ≤ 9223372036854775807) : RunsP Try.prog 10 [filesD files, boolsD fails] (fun v => v = .v (.bool true) ∨ (v = .v (.bool false) ∧ fails.length ≤ 10000)) :=
  (great_c files fails h).mono fun v ⟨g, e, q⟩ => by
    cases g
    · exact .inr ⟨e, q rfl⟩
    · exact .inl e
theorem heavy_p (l : List ADo) (h : l.length ≤ 9223372036854775807) : RunsP Try.prog 11 [dosD l] (fun v => v = .v (.bool true) ∨ (v = .v (.bool false) ∧ l.length ≤ 300)) :=
  (heavy_c l h).mono fun v ⟨g, e, q⟩ => by
    cases g
    · exact .inr ⟨e, q rfl⟩
    · exact .inl e

theorem known_p : RunsP Try.prog 9 [] (fun v => v = .v (.bool true)) :=
  Runs.pure (known_c.mono fun v σ' h => ⟨_, h, rfl⟩)
end
end Go.Proofs.Ytlpgekodoiioaaa
