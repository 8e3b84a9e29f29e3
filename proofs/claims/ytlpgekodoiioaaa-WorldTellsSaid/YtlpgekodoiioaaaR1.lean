/- The contracts of package world, for the abstract walk. -/
import Derived.Test.YtlpgekodoiioaaaWb
import Derived.Test.YtlpgekodoiioaaaBridge
import Derived.Test.YtlpgekodoiioaaaTab
set_option linter.unusedSimpArgs false
set_option linter.unusedVariables false
namespace Go.Proofs.Ytlpgekodoiioaaa
open Go.RowKit

/-- A world, as an owned object. -/
def wo (W : AW) : AObj := .hp fun b => worldAt b W

def Plain (args : List DV) (vals : List Value) : Prop := ∀ F us, LRep F args us → us = vals
theorem plain_nil : Plain [] [] := fun _ _ h => h
theorem plain_cons {v : Value} {l : List DV} {vs : List Value} (h : Plain l vs) : Plain (.v v :: l) (v :: vs) := by
  intro F us ⟨u, us', e, r, q⟩
  obtain ⟨rfl, _⟩ := r
  subst e
  rw [h F us' q]

section
variable {σ σ2 : List AObj} {loc : Nat} {W W' : AW} {F : FuncId} {args : List DV} {vals : List Value} {res : DV} {resV : Value}

theorem set_same {σ : List AObj} {loc : Nat} {o : AObj} (h : σ[loc]? = some o) : σ.set loc o = σ := by
  apply List.ext_getElem?
  intro i
  by_cases e : i = loc
  · subst e
    rw [List.getElem?_set_self (List.getElem?_eq_some_iff.1 h).1, h]
  · rw [List.getElem?_set_ne (Ne.symm e)]

theorem arg_ptr {x : Ctx} {loc : Nat} {u : Value} (h : ARep x (.ptr loc 0 0) u) (hv : (x.env loc).ver = 0) : u = .pointer (some ⟨(x.env loc).blk, 0, none⟩) := by
  obtain ⟨_, _, a, e, h⟩ := h
  rw [e, h hv.symm]

theorem runs_world (hgo : isGo Try.prog F = true) (hl : σ[loc]? = some (wo W)) (hargs : Plain args vals) (hres : ∀ G, DRep G res resV) (hσ : seqL (σ.set loc (wo W')) some = some σ2)
    (hc : ∀ (W0 w : World) (p : Nat) (L : List HProp), St W0 w (worldAt p W :: L) → Calls Try.prog F (.pointer (some ⟨p, 0, none⟩) :: vals).toArray w fun e w' => e = .returned resV ∧ St W0 w' (worldAt p W' :: L)) :
    Runs Try.prog F (.ptr loc 0 0 :: args.map .d) σ (fun v σ' => v = .d res ∧ σ' = σ2) := by
  rw [seqL_eq] at hσ
  injection hσ with hσ
  subst hσ
  refine ⟨hgo, fun B R x w vs ⟨u, us, e, h1, h2⟩ hh hca => ?_⟩
  obtain ⟨hv, rest, hs, hr⟩ := hh.lend hl
  subst e
  rw [arg_ptr h1 hv, hargs _ _ h2.toD]
  refine Calls.mono (hc _ _ _ _ hs) fun e w' ⟨he, hs'⟩ => ?_
  subst he
  exact ⟨resV, .d res, x, _, rfl, .refl x, hres _, hr.back (P' := fun b => worldAt b W') hv hs', hca.st hs', rfl, rfl⟩

/-- A method that gives a list. -/
theorem runs_world_lst {T : TypeId} {sz n : Nat} {us : List Value} {rs : List (List DV)} (hgo : isGo Try.prog F = true) (hl : σ[loc]? = some (wo W)) (hr : ∀ G, FRep G sz rs us) (hn : rs.length = n) (ho : ∀ u ∈ us, u.oneCell' = true)
    (hc : ∀ (W0 w : World) (p : Nat) (L : List HProp), St W0 w (worldAt p W :: L) → Calls Try.prog F #[.pointer (some ⟨p, 0, none⟩)] w fun e w' => ∃ v, e = .returned v ∧ St W0 w' (ownS T sz v n us :: worldAt p W :: L)) :
    Runs Try.prog F [.ptr loc 0 0] σ (fun v σ' => v = .d (.lst sz rs) ∧ σ' = σ) := by
  refine ⟨hgo, fun B R x w vs ⟨u, us', e, h1, h2⟩ hh hca => ?_⟩
  obtain ⟨hv, rest, hs, hrs⟩ := hh.lend hl
  have h2 : us' = [] := h2
  subst e h2
  rw [arg_ptr h1 hv]
  refine Calls.mono (hc _ _ _ _ hs) fun e w' ⟨v, he, hs'⟩ => ?_
  subst he
  obtain ⟨q, hq, hd, hh'⟩ := hrs.back_frz (P' := fun b => worldAt b W) hv hs'
  have e1 := set_same hl
  unfold wo at e1
  rw [e1] at hh'
  exact ⟨v, .d (.lst sz rs), _, σ, rfl, Ctx.frz_ext (Le.un_left _ _), drep_own hq hr hn ho (Le.un_right hd), hh', hca.st hs', rfl, rfl⟩

/-- Copy. -/
theorem runs_copy {n : Nat} (hl : σ[loc]? = some (wo W)) (ok : W.Ok n) (hn : n ≤ 100000) (hb : W.fails.length ≤ 100000) : Runs Try.prog 14 [.ptr loc 0 0] σ (fun v σ' => v = .ptr σ.length 0 0 ∧ σ' = σ ++ [wo W]) := by
  refine ⟨by kernel_rfl, fun B R x w vs ⟨u, us', e, h1, h2⟩ hh hca => ?_⟩
  obtain ⟨hv, rest, hs, hrs⟩ := hh.lend hl
  have h2 : us' = [] := h2
  subst e h2
  rw [arg_ptr h1 hv]
  refine Calls.mono (copy_c hs ok hn hb) fun e w' ⟨q, he, hs'⟩ => ?_
  subst he
  have hh' := hrs.back_new (P' := fun b => worldAt b W) (Q := fun b => worldAt b W) hv hs'
  have e1 := set_same hl
  unfold wo at e1
  rw [e1] at hh'
  refine ⟨_, .ptr σ.length 0 0, _, _, rfl, x.push_ext _, ?_, hh', hca.st hs', rfl, rfl⟩
  refine ⟨by simp [Ctx.push, hh.n], Nat.zero_le _, _, rfl, fun _ => ?_⟩
  rw [← hh.n]
  simp [Ctx.push]

def fileD (f : AFile) : List DV := [.v (.string f.name), .v (.string f.text)]
def opD (o : AOp) : List DV := [.v (.int .u8 o.kind), .v (.int .i64 o.h), .v (.string o.name), .v (.string o.text), .v (.bool o.ok)]
def filesD (l : List AFile) : DV := .lst 2 (l.map fileD)
def traceD (l : List AOp) : DV := .lst 5 (l.map opD)
def natD (n : Nat) : List DV := [.v (.int .i64 (n : Int))]
def natsD (l : List Nat) : DV := .lst 1 (l.map natD)
def boolD (b : Bool) : List DV := [.v (.bool b)]
def boolsD (l : List Bool) : DV := .lst 1 (l.map boolD)

theorem frep_map {α : Type} {f : α → List DV} {g : α → List Value} {sz : Nat} {G : Frag} (h : ∀ x, (f x).length = sz ∧ LRep G (f x) (g x)) : ∀ l : List α, FRep G sz (l.map f) (l.flatMap g)
  | [] => rfl
  | a :: l => ⟨g a, l.flatMap g, rfl, (h a).1, (h a).2, frep_map h l⟩

theorem fileD_rep {G : Frag} (x : AFile) : (fileD x).length = 2 ∧ LRep G (fileD x) (fCells x) := ⟨rfl, _, _, rfl, ⟨rfl, rfl⟩, _, _, rfl, ⟨rfl, rfl⟩, rfl⟩
theorem opD_rep {G : Frag} (x : AOp) : (opD x).length = 5 ∧ LRep G (opD x) (oCells x) := ⟨rfl, _, _, rfl, ⟨rfl, rfl⟩, _, _, rfl, ⟨rfl, rfl⟩, _, _, rfl, ⟨rfl, rfl⟩, _, _, rfl, ⟨rfl, rfl⟩, _, _, rfl, ⟨rfl, rfl⟩, rfl⟩
theorem natD_rep {G : Frag} (n : Nat) : (natD n).length = 1 ∧ LRep G (natD n) [.int .i64 (n : Int)] := ⟨rfl, _, _, rfl, ⟨rfl, rfl⟩, rfl⟩

theorem files_r (hl : σ[loc]? = some (wo W)) (hn : W.files.length ≤ 100000) : Runs Try.prog 26 [.ptr loc 0 0] σ (fun v σ' => v = .d (filesD W.files) ∧ σ' = σ) :=
  runs_world_lst (by kernel_rfl) hl (fun G => frep_map fileD_rep _) (by simp) (one_flat one_fCells _) fun W0 w p L h => files_c h hn
theorem trace_r (hl : σ[loc]? = some (wo W)) (hn : W.trace.length ≤ 100000) : Runs Try.prog 21 [.ptr loc 0 0] σ (fun v σ' => v = .d (traceD W.trace) ∧ σ' = σ) :=
  runs_world_lst (by kernel_rfl) hl (fun G => frep_map opD_rep _) (by simp) (one_flat one_oCells _) fun W0 w p L h => trace_c h hn
theorem handles_r (hl : σ[loc]? = some (wo W)) (hn : W.handles.length ≤ 100000) : Runs Try.prog 28 [.ptr loc 0 0] σ (fun v σ' => v = .d (natsD (opens W.handles 0)) ∧ σ' = σ) :=
  runs_world_lst (by kernel_rfl) hl (fun G => by
    have : natsV (opens W.handles 0) = (opens W.handles 0).flatMap fun n => [.int .i64 (n : Int)] := by
      generalize opens W.handles 0 = l
      induction l with
      | nil => rfl
      | cons a l ih => simp only [natsV, List.map_cons, List.flatMap_cons] at ih ⊢; rw [ih]; rfl
    rw [this]
    exact frep_map natD_rep _) (by simp) (one_natsV _) fun W0 w p L h => handles_c h hn

theorem open_r {n : Nat} (name : ByteArray) (hl : σ[loc]? = some (wo W)) (ok : W.Ok n) (hn : n ≤ 100000) (hσ : seqL (σ.set loc (wo (W.open_ name).2)) some = some σ2) :
    Runs Try.prog 15 [.ptr loc 0 0, .d (.v (.string name))] σ (fun v σ' => v = .d (.tup [.v (.int .i64 (W.open_ name).1.1), .v (.bool (W.open_ name).1.2)]) ∧ σ' = σ2) :=
  runs_world (args := [.v (.string name)]) (by kernel_rfl) hl (plain_cons plain_nil) (fun G => ⟨_, rfl, _, _, rfl, ⟨rfl, rfl⟩, _, _, rfl, ⟨rfl, rfl⟩, rfl⟩) hσ fun W0 w p L h => open_c h ok hn name
theorem read_r {n : Nat} (x : Int) (hl : σ[loc]? = some (wo W)) (ok : W.Ok n) (hn : n ≤ 100000) (hσ : seqL (σ.set loc (wo (W.read x).2)) some = some σ2) :
    Runs Try.prog 23 [.ptr loc 0 0, .d (.v (.int .i64 x))] σ (fun v σ' => v = .d (.tup [.v (.int .u8 (W.read x).1.1), .v (.string (W.read x).1.2.1), .v (.int .i64 (W.read x).1.2.2)]) ∧ σ' = σ2) :=
  runs_world (args := [.v (.int .i64 x)]) (by kernel_rfl) hl (plain_cons plain_nil) (fun G => ⟨_, rfl, _, _, rfl, ⟨rfl, rfl⟩, _, _, rfl, ⟨rfl, rfl⟩, _, _, rfl, ⟨rfl, rfl⟩, rfl⟩) hσ fun W0 w p L h => read_c h ok hn x
theorem write_r {n : Nat} (x : Int) (s : ByteArray) (hs : s.size ≤ maxLen) (hl : σ[loc]? = some (wo W)) (ok : W.Ok n) (hn : n ≤ 100000) (hσ : seqL (σ.set loc (wo (W.write x s).2)) some = some σ2) :
    Runs Try.prog 16 [.ptr loc 0 0, .d (.v (.int .i64 x)), .d (.v (.string s))] σ (fun v σ' => v = .d (.tup [.v (.bool (W.write x s).1.1), .v (.int .i64 (W.write x s).1.2)]) ∧ σ' = σ2) :=
  runs_world (args := [.v (.int .i64 x), .v (.string s)]) (by kernel_rfl) hl (plain_cons (plain_cons plain_nil)) (fun G => ⟨_, rfl, _, _, rfl, ⟨rfl, rfl⟩, _, _, rfl, ⟨rfl, rfl⟩, rfl⟩) hσ fun W0 w p L h => write_c h ok hn x s hs
theorem close_r {n : Nat} (x : Int) (hl : σ[loc]? = some (wo W)) (ok : W.Ok n) (hn : n ≤ 100000) (hσ : seqL (σ.set loc (wo (W.close x).2)) some = some σ2) :
    Runs Try.prog 17 [.ptr loc 0 0, .d (.v (.int .i64 x))] σ (fun v σ' => v = .d (.tup [.v (.bool (W.close x).1.1), .v (.int .i64 (W.close x).1.2)]) ∧ σ' = σ2) :=
  runs_world (args := [.v (.int .i64 x)]) (by kernel_rfl) hl (plain_cons plain_nil) (fun G => ⟨_, rfl, _, _, rfl, ⟨rfl, rfl⟩, _, _, rfl, ⟨rfl, rfl⟩, rfl⟩) hσ fun W0 w p L h => close_c h x (Nat.le_trans ok.handles hn) (Nat.le_trans ok.trace hn)
theorem drop_r {n : Nat} (x : Int) (hl : σ[loc]? = some (wo W)) (ok : W.Ok n) (hn : n ≤ 100000) (hσ : seqL (σ.set loc (wo (W.drop x).2)) some = some σ2) :
    Runs Try.prog 22 [.ptr loc 0 0, .d (.v (.int .i64 x))] σ (fun v σ' => v = .d (.v (.int .i64 (W.drop x).1)) ∧ σ' = σ2) :=
  runs_world (args := [.v (.int .i64 x)]) (by kernel_rfl) hl (plain_cons plain_nil) (fun G => ⟨rfl, rfl⟩) hσ fun W0 w p L h => drop_c h x (Nat.le_trans ok.handles hn)
end
end Go.Proofs.Ytlpgekodoiioaaa
