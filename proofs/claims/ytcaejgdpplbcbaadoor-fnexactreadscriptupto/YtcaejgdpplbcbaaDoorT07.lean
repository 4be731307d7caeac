import Derived.Test.YtcaejgdpplbcbaaDoorT03
import Derived.Test.YtcaejgdpplbcbaaDoorT06
import Derived.Test.YtcaejgdpplbcbaaDoorRows
import Derived.Test.YtcaejgdpplbcbaaDoorCards
import Derived.Test.YtcaejgdpplbcbaaDoorTie
import Derived.JoinedCond
import Derived.Deep.DeepHandedRow
import Derived.Lib.LaidTab
import Derived.Stop.LaidErr
set_option autoImplicit false
set_option maxRecDepth 100000
set_option linter.unusedSimpArgs false
set_option linter.unusedVariables false
namespace Go.Vm
section
variable {P:Program}
end
end Go.Vm
namespace Go.Proofs.YtcaejgdpplbcbaaDoor
open Go.Vm Go.RowKit Go.ChangeShapes
theorem Tryd.own:ownKnob Tryd.prog.godebug=none:=by kernel_rfl
theorem qeg:laidOutB Tryd.prog=true:=by kernel_rfl
def St:List TypeId:=[3,9,22,24,26]
theorem qef: ∀ t ∈ St,jF Tryd.prog St t=true:=by
 have h:St.all (jF Tryd.prog St)=true:=by kernel_rfl
 exact fun t ht=>List.all_eq_true.1 h t ht
mutual
theorem qaN {H:Type}: ∀ (d:DataW H),zC d≤Rows.uptoBulk d
 | .lit (.string b)=>by simp [zC,Rows.uptoBulk]
 | .lit (.bool b)=>by simp [zC,Rows.uptoBulk]
 | .lit (.int k b)=>by simp [zC,Rows.uptoBulk]
 | .lit (.float k b)=>by simp [zC,Rows.uptoBulk]
 | .lit .nil=>by simp [zC,Rows.uptoBulk]
 | .nil=>by simp [zC,Rows.uptoBulk]
 | .ptr d=>by simp only [zC,Rows.uptoBulk];have:=qaN d;omega
 | .slice es sp=>by simp only [zC,Rows.uptoBulk];have:=Zz es;have:=Zz sp;omega
 | .agg ps=>by simp only [zC,Rows.uptoBulk];have:=Zz ps;omega
 | .iface t d=>by simp only [zC,Rows.uptoBulk];omega
 | .map es=>by simp only [zC,Rows.uptoBulk];omega
 | .held h=>by simp [zC,Rows.uptoBulk]
theorem Zz {H:Type}: ∀ (ds:List (DataW H)),yZ ds≤Rows.uptoBulkAll ds
 |[]=>by simp [yZ,Rows.uptoBulkAll]
 |d::ds=>by simp only [yZ,Rows.uptoBulkAll];have:=qaN d;have:=Zz ds;omega
end
theorem qiD {H:Type} {ds:List (DataW H)} (h:Rows.uptoSmall H ds=true):yZ ds≤1048576:=Nat.le_trans (Zz ds) (of_decide_eq_true h)
def qdC(xs:Array Value):Obj→Obj
 | .cells _ t frozen=> .cells xs t frozen
 |o=>o
def qiW:Array Value:= #[.int .u8 128,.int .u8 191,.int .u8 160,.int .u8 191,.int .u8 128,.int .u8 159,.int .u8 144,.int .u8 191,.int .u8 128,.int .u8 143,.int .u8 0,.int .u8 0,.int .u8 0,.int .u8 0,.int .u8 0,.int .u8 0,.int .u8 0,.int .u8 0,.int .u8 0,.int .u8 0,.int .u8 0,.int .u8 0,.int .u8 0,.int .u8 0,.int .u8 0,.int .u8 0,.int .u8 0,.int .u8 0,.int .u8 0,.int .u8 0,.int .u8 0,.int .u8 0]
def qiX:Array Value:=(Go.Pinned.utf8FirstZ.map fun (n:Nat)=>Value.int .u8 n).toArray
noncomputable def K0(os:Os):World:=
 {World.holding Tryd.prog os ⟨#[],#[],[]⟩with heap:=(((World.holding Tryd.prog os ⟨#[],#[],[]⟩).heap).modify 2 (qdC qiW)).modify 1 (qdC qiX)}
theorem qgx {W:World} (hsh:W.ShapedOpen Tryd.prog):Y6 W:=by
 obtain ⟨m,hm⟩:=Y7.s1_3 W hsh
 refine ⟨?_,m,hm⟩
 rintro b rfl
 unfold World.cell? at hm
 cases hb:W.heap[j2.g 1]? with
 |none=>simp only [hb]at hm;cases hm
 |some x=>exact (Array.getElem?_eq_some_iff.1 hb).1
end Go.Proofs.YtcaejgdpplbcbaaDoor
