import Derived.Test.YtehgffojgiefaaaVmDat
import Derived.Test.YtehgffojgiefaaaRGS
set_option autoImplicit false
set_option linter.unusedSimpArgs false
set_option linter.unusedVariables false
namespace Go.Vm
def wS (s : Str) : Prop := s.length ≤ Lm
structure Cl where
  head : Tm
  body : Tm
  file : Str
noncomputable instance : DecidableEq Cl := fun a b => Classical.propDecidable (a = b)
def bCl (x : Cl) (v : V) : Prop := ∃ τ0 vs0 τ1 vs1, v = .a [I x.head.kind, S x.head.name, I x.head.num, .i τ0 vs0, I x.body.kind, S x.body.name, I x.body.num, .i τ1 vs1, S x.file] ∧ RL BT x.head.kids vs0 ∧ RL BT x.body.kids vs1
def oCl (x : Cl) : V := .a [I x.head.kind, S x.head.name, I x.head.num, .o 4 (x.head.kids.map oT), I x.body.kind, S x.body.name, I x.body.num, .o 4 (x.body.kids.map oT), S x.file]
def iCl (τ : Bool) (x : Cl) : V := .a [I x.head.kind, S x.head.name, I x.head.num, .i τ (x.head.kids.map (iT τ)), I x.body.kind, S x.body.name, I x.body.num, .i τ (x.body.kids.map (iT τ)), S x.file]
def wCl (x : Cl) : Prop := WT x.head ∧ WT x.body ∧ wS x.file
theorem b_iCl (τ : Bool) (x : Cl) : bCl x (iCl τ x) := ⟨τ, _, τ, _, rfl, RL_iT τ _, RL_iT τ _⟩
theorem conv_oCl (τ : Bool) (x : Cl) : conv τ (oCl x) = iCl τ x := by simp only [oCl, iCl, go_sem]
theorem noTag_oCl (x : Cl) : noTag (oCl x) = true := by simp only [oCl, go_sem]
theorem noTag_iCl (x : Cl) : noTag (iCl false x) = true := by simp only [iCl, go_sem]
theorem Cl_flat (x : Cl) (v : V) (h : bCl x v) : FlatA 9 v := by
  obtain ⟨τ0, vs0, τ1, vs1, rfl, -, -⟩ := h; exact ⟨_, rfl, rfl, rfl⟩
@[go_sem] theorem zero_iCl (τ : Bool) (x : Cl) : zeroB (iCl τ x) = true := rfl
@[go_sem] theorem close_iCl (m : Nat) (T : Mem) (τ : Bool) (x : Cl) : closeV (m + 2) T (iCl τ x) = (iCl τ x, T) := rfl
@[go_sem] theorem conv_iCl (τ τ' : Bool) (x : Cl) : conv τ (iCl τ' x) = iCl τ' x := rfl
@[go_sem] theorem kill_iCl (d : Nat) (τ : Bool) (x : Cl) : killV d (iCl τ x) = iCl τ x := rfl
@[go_sem] theorem dir_iCl (τ : Bool) (x : Cl) : dirV (iCl τ x) = [] := rfl
@[go_sem] theorem isA_iCl (τ : Bool) (x : Cl) : (iCl τ x).isA = true := rfl
@[go_sem] theorem load_iCl (τ : Bool) (x : Cl) : loadE true 9 (iCl τ x) 0 = some (iCl τ x) := rfl
@[go_sem] theorem cells_iCl (τ : Bool) (x : Cl) : (iCl τ x).cells = [I x.head.kind, S x.head.name, I x.head.num, .i τ (x.head.kids.map (iT τ)), I x.body.kind, S x.body.name, I x.body.num, .i τ (x.body.kids.map (iT τ)), S x.file] := rfl
@[go_sem] theorem clE_oCl (x : Cl) : clE (oCl x) = true := rfl
@[go_sem] theorem clE_iCl (τ : Bool) (x : Cl) : clE (iCl τ x) = true := rfl
attribute [go_sem] conv_oCl noTag_oCl noTag_iCl
@[go_sem] theorem convL_mCl (τ : Bool) (l : List Cl) : convL τ (l.map oCl) = l.map (iCl τ) := convL_map (conv_oCl τ) l
@[go_sem] theorem noTagL_mCl (l : List Cl) : noTagL (l.map oCl) = true := noTagL_map noTag_oCl l
@[go_sem] theorem noTagL_miCl (l : List Cl) : noTagL (l.map (iCl false)) = true := noTagL_map noTag_iCl l
@[go_sem] theorem clEs_mCl (l : List Cl) : clEs (l.map oCl) = true := clEs_map clE_oCl l
@[go_sem] theorem killL_mCl (d : Nat) (l : List Cl) : killL d (l.map oCl) = l.map oCl := killL_map clE_oCl d l
structure Db where
  clauses : List Cl
  opn : List Str
noncomputable instance : DecidableEq Db := fun a b => Classical.propDecidable (a = b)
def bDb (x : Db) (v : V) : Prop := ∃ τ0 vs0 τ1, v = .a [.i τ0 vs0, .i τ1 (x.opn.map S)] ∧ RL bCl x.clauses vs0
def oDb (x : Db) : V := .a [.o 9 (x.clauses.map oCl), .o 1 (x.opn.map S)]
def iDb (τ : Bool) (x : Db) : V := .a [.i τ (x.clauses.map (iCl τ)), .i τ (x.opn.map S)]
def wDb (x : Db) : Prop := (x.clauses.length ≤ Lm ∧ ∀ y ∈ x.clauses, wCl y) ∧ (x.opn.length ≤ Lm ∧ ∀ y ∈ x.opn, wS y)
theorem b_iDb (τ : Bool) (x : Db) : bDb x (iDb τ x) := ⟨τ, _, τ, rfl, RL_map (b_iCl τ) _⟩
theorem conv_oDb (τ : Bool) (x : Db) : conv τ (oDb x) = iDb τ x := by simp only [oDb, iDb, go_sem]
theorem noTag_oDb (x : Db) : noTag (oDb x) = true := by simp only [oDb, go_sem]
theorem noTag_iDb (x : Db) : noTag (iDb false x) = true := by simp only [iDb, go_sem]
theorem Db_flat (x : Db) (v : V) (h : bDb x v) : FlatA 2 v := by
  obtain ⟨τ0, vs0, τ1, rfl, -⟩ := h; exact ⟨_, rfl, rfl, rfl⟩
@[go_sem] theorem zero_iDb (τ : Bool) (x : Db) : zeroB (iDb τ x) = true := rfl
@[go_sem] theorem close_iDb (m : Nat) (T : Mem) (τ : Bool) (x : Db) : closeV (m + 2) T (iDb τ x) = (iDb τ x, T) := rfl
@[go_sem] theorem conv_iDb (τ τ' : Bool) (x : Db) : conv τ (iDb τ' x) = iDb τ' x := rfl
@[go_sem] theorem kill_iDb (d : Nat) (τ : Bool) (x : Db) : killV d (iDb τ x) = iDb τ x := rfl
@[go_sem] theorem dir_iDb (τ : Bool) (x : Db) : dirV (iDb τ x) = [] := rfl
@[go_sem] theorem isA_iDb (τ : Bool) (x : Db) : (iDb τ x).isA = true := rfl
@[go_sem] theorem load_iDb (τ : Bool) (x : Db) : loadE true 2 (iDb τ x) 0 = some (iDb τ x) := rfl
@[go_sem] theorem cells_iDb (τ : Bool) (x : Db) : (iDb τ x).cells = [.i τ (x.clauses.map (iCl τ)), .i τ (x.opn.map S)] := rfl
@[go_sem] theorem clE_oDb (x : Db) : clE (oDb x) = true := rfl
@[go_sem] theorem clE_iDb (τ : Bool) (x : Db) : clE (iDb τ x) = true := rfl
attribute [go_sem] conv_oDb noTag_oDb noTag_iDb
@[go_sem] theorem convL_mDb (τ : Bool) (l : List Db) : convL τ (l.map oDb) = l.map (iDb τ) := convL_map (conv_oDb τ) l
@[go_sem] theorem noTagL_mDb (l : List Db) : noTagL (l.map oDb) = true := noTagL_map noTag_oDb l
@[go_sem] theorem noTagL_miDb (l : List Db) : noTagL (l.map (iDb false)) = true := noTagL_map noTag_iDb l
@[go_sem] theorem clEs_mDb (l : List Db) : clEs (l.map oDb) = true := clEs_map clE_oDb l
@[go_sem] theorem killL_mDb (d : Nat) (l : List Db) : killL d (l.map oDb) = l.map oDb := killL_map clE_oDb d l
structure Fl where
  name : Str
  text : Str
noncomputable instance : DecidableEq Fl := fun a b => Classical.propDecidable (a = b)
def bFl (x : Fl) (v : V) : Prop := v = .a [S x.name, S x.text]
def oFl (x : Fl) : V := .a [S x.name, S x.text]
def iFl (τ : Bool) (x : Fl) : V := .a [S x.name, S x.text]
def wFl (x : Fl) : Prop := wS x.name ∧ wS x.text
theorem b_iFl (τ : Bool) (x : Fl) : bFl x (iFl τ x) := rfl
theorem conv_oFl (τ : Bool) (x : Fl) : conv τ (oFl x) = iFl τ x := by simp only [oFl, iFl, go_sem]
theorem noTag_oFl (x : Fl) : noTag (oFl x) = true := by simp only [oFl, go_sem]
theorem noTag_iFl (x : Fl) : noTag (iFl false x) = true := by simp only [iFl, go_sem]
theorem Fl_flat (x : Fl) (v : V) (h : bFl x v) : FlatA 2 v := by
  obtain rfl := h; exact ⟨_, rfl, rfl, rfl⟩
@[go_sem] theorem zero_iFl (τ : Bool) (x : Fl) : zeroB (iFl τ x) = true := rfl
@[go_sem] theorem close_iFl (m : Nat) (T : Mem) (τ : Bool) (x : Fl) : closeV (m + 2) T (iFl τ x) = (iFl τ x, T) := rfl
@[go_sem] theorem conv_iFl (τ τ' : Bool) (x : Fl) : conv τ (iFl τ' x) = iFl τ' x := rfl
@[go_sem] theorem kill_iFl (d : Nat) (τ : Bool) (x : Fl) : killV d (iFl τ x) = iFl τ x := rfl
@[go_sem] theorem dir_iFl (τ : Bool) (x : Fl) : dirV (iFl τ x) = [] := rfl
@[go_sem] theorem isA_iFl (τ : Bool) (x : Fl) : (iFl τ x).isA = true := rfl
@[go_sem] theorem load_iFl (τ : Bool) (x : Fl) : loadE true 2 (iFl τ x) 0 = some (iFl τ x) := rfl
@[go_sem] theorem cells_iFl (τ : Bool) (x : Fl) : (iFl τ x).cells = [S x.name, S x.text] := rfl
@[go_sem] theorem clE_oFl (x : Fl) : clE (oFl x) = true := rfl
@[go_sem] theorem clE_iFl (τ : Bool) (x : Fl) : clE (iFl τ x) = true := rfl
attribute [go_sem] conv_oFl noTag_oFl noTag_iFl
@[go_sem] theorem convL_mFl (τ : Bool) (l : List Fl) : convL τ (l.map oFl) = l.map (iFl τ) := convL_map (conv_oFl τ) l
@[go_sem] theorem noTagL_mFl (l : List Fl) : noTagL (l.map oFl) = true := noTagL_map noTag_oFl l
@[go_sem] theorem noTagL_miFl (l : List Fl) : noTagL (l.map (iFl false)) = true := noTagL_map noTag_iFl l
@[go_sem] theorem clEs_mFl (l : List Fl) : clEs (l.map oFl) = true := clEs_map clE_oFl l
@[go_sem] theorem killL_mFl (d : Nat) (l : List Fl) : killL d (l.map oFl) = l.map oFl := killL_map clE_oFl d l
structure Se where
  files : List Fl
  db : Db
  lines : List Str
  out : Str
noncomputable instance : DecidableEq Se := fun a b => Classical.propDecidable (a = b)
def bSe (x : Se) (v : V) : Prop := ∃ τ0 vs0 τ1 vs1 τ2 τ3, v = .a [.i τ0 vs0, .i τ1 vs1, .i τ2 (x.db.opn.map S), .i τ3 (x.lines.map S), S x.out] ∧ RL bFl x.files vs0 ∧ RL bCl x.db.clauses vs1
def oSe (x : Se) : V := .a [.o 2 (x.files.map oFl), .o 9 (x.db.clauses.map oCl), .o 1 (x.db.opn.map S), .o 1 (x.lines.map S), S x.out]
def iSe (τ : Bool) (x : Se) : V := .a [.i τ (x.files.map (iFl τ)), .i τ (x.db.clauses.map (iCl τ)), .i τ (x.db.opn.map S), .i τ (x.lines.map S), S x.out]
def wSe (x : Se) : Prop := (x.files.length ≤ Lm ∧ ∀ y ∈ x.files, wFl y) ∧ wDb x.db ∧ (x.lines.length ≤ Lm ∧ ∀ y ∈ x.lines, wS y) ∧ wS x.out
theorem b_iSe (τ : Bool) (x : Se) : bSe x (iSe τ x) := ⟨τ, _, τ, _, τ, τ, rfl, RL_map (b_iFl τ) _, RL_map (b_iCl τ) _⟩
theorem conv_oSe (τ : Bool) (x : Se) : conv τ (oSe x) = iSe τ x := by simp only [oSe, iSe, go_sem]
theorem noTag_oSe (x : Se) : noTag (oSe x) = true := by simp only [oSe, go_sem]
theorem noTag_iSe (x : Se) : noTag (iSe false x) = true := by simp only [iSe, go_sem]
theorem Se_flat (x : Se) (v : V) (h : bSe x v) : FlatA 5 v := by
  obtain ⟨τ0, vs0, τ1, vs1, τ2, τ3, rfl, -, -⟩ := h; exact ⟨_, rfl, rfl, rfl⟩
@[go_sem] theorem zero_iSe (τ : Bool) (x : Se) : zeroB (iSe τ x) = true := rfl
@[go_sem] theorem close_iSe (m : Nat) (T : Mem) (τ : Bool) (x : Se) : closeV (m + 2) T (iSe τ x) = (iSe τ x, T) := rfl
@[go_sem] theorem conv_iSe (τ τ' : Bool) (x : Se) : conv τ (iSe τ' x) = iSe τ' x := rfl
@[go_sem] theorem kill_iSe (d : Nat) (τ : Bool) (x : Se) : killV d (iSe τ x) = iSe τ x := rfl
@[go_sem] theorem dir_iSe (τ : Bool) (x : Se) : dirV (iSe τ x) = [] := rfl
@[go_sem] theorem isA_iSe (τ : Bool) (x : Se) : (iSe τ x).isA = true := rfl
@[go_sem] theorem load_iSe (τ : Bool) (x : Se) : loadE true 5 (iSe τ x) 0 = some (iSe τ x) := rfl
@[go_sem] theorem cells_iSe (τ : Bool) (x : Se) : (iSe τ x).cells = [.i τ (x.files.map (iFl τ)), .i τ (x.db.clauses.map (iCl τ)), .i τ (x.db.opn.map S), .i τ (x.lines.map S), S x.out] := rfl
@[go_sem] theorem clE_oSe (x : Se) : clE (oSe x) = true := rfl
@[go_sem] theorem clE_iSe (τ : Bool) (x : Se) : clE (iSe τ x) = true := rfl
attribute [go_sem] conv_oSe noTag_oSe noTag_iSe
@[go_sem] theorem convL_mSe (τ : Bool) (l : List Se) : convL τ (l.map oSe) = l.map (iSe τ) := convL_map (conv_oSe τ) l
@[go_sem] theorem noTagL_mSe (l : List Se) : noTagL (l.map oSe) = true := noTagL_map noTag_oSe l
@[go_sem] theorem noTagL_miSe (l : List Se) : noTagL (l.map (iSe false)) = true := noTagL_map noTag_iSe l
@[go_sem] theorem clEs_mSe (l : List Se) : clEs (l.map oSe) = true := clEs_map clE_oSe l
@[go_sem] theorem killL_mSe (d : Nat) (l : List Se) : killL d (l.map oSe) = l.map oSe := killL_map clE_oSe d l
end Go.Vm
