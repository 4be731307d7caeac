import Derived.Test.YtbbkmeicdhnihaaGreatDoorT03
import Derived.Test.YtbbkmeicdhnihaaGreatDoorT09
import Derived.Test.YtbbkmeicdhnihaaGreatDoorT08
import Derived.Test.YtbbkmeicdhnihaaGreatDoorRows
import Derived.Test.YtbbkmeicdhnihaaGreatDoorCards
import Derived.Test.YtbbkmeicdhnihaaGreatDoorTie
import Derived.JoinedCond
import Derived.Deep.DeepHandedRow
import Derived.Lib.LaidTab
import Derived.Stop.LaidErr
import Derived.SevenTiedAt
set_option autoImplicit false
set_option maxRecDepth 100000
set_option linter.unusedSimpArgs false
set_option linter.unusedVariables false
namespace Go.Vm
section
variable {P:Program}
end
end Go.Vm
namespace Go.Proofs.YtbbkmeicdhnihaaGreatDoor
open Go.Vm Go.RowKit Go.ChangeShapes
theorem Tryz.own:ownKnob Tryz.prog.godebug=none:=by kernel_rfl
theorem qq7:laidOutB Tryz.prog=true:=by kernel_rfl
def St:List TypeId:=[3,5,9,22,23,25,38,107,109,111]
theorem qq5: ∀ t ∈ St,XV Tryz.prog St t=true:=by
 have h:St.all (XV Tryz.prog St)=true:=by kernel_rfl
 exact fun t ht=>List.all_eq_true.1 h t ht
mutual
theorem qlB {H:Type}: ∀ (d:DataW H),yD d≤Rows.uptoBulk d
 | .lit (.string b)=>by simp [yD,Rows.uptoBulk]
 | .lit (.bool b)=>by simp [yD,Rows.uptoBulk]
 | .lit (.int k b)=>by simp [yD,Rows.uptoBulk]
 | .lit (.float k b)=>by simp [yD,Rows.uptoBulk]
 | .lit .nil=>by simp [yD,Rows.uptoBulk]
 | .nil=>by simp [yD,Rows.uptoBulk]
 | .ptr d=>by simp only [yD,Rows.uptoBulk];have:=qlB d;omega
 | .slice es sp=>by simp only [yD,Rows.uptoBulk];have:=qcz es;have:=qcz sp;omega
 | .agg ps=>by simp only [yD,Rows.uptoBulk];have:=qcz ps;omega
 | .iface t d=>by simp only [yD,Rows.uptoBulk];omega
 | .map es=>by simp only [yD,Rows.uptoBulk];omega
 | .held h=>by simp [yD,Rows.uptoBulk]
theorem qcz {H:Type}: ∀ (ds:List (DataW H)),jp ds≤Rows.uptoBulkAll ds
 |[]=>by simp [jp,Rows.uptoBulkAll]
 |d::ds=>by simp only [jp,Rows.uptoBulkAll];have:=qlB d;have:=qcz ds;omega
end
theorem qBA {H:Type} {ds:List (DataW H)} (h:Rows.uptoSmall H ds=true):jp ds≤1048576:=Nat.le_trans (qcz ds) (of_decide_eq_true h)
def qjN(xs:Array Value):Obj→Obj
 | .cells _ t frozen=> .cells xs t frozen
 |o=>o
def qCb:Array Value:= #[.int .u8 0,.int .u8 1,.int .u8 28,.int .u8 2,.int .u8 29,.int .u8 14,.int .u8 24,.int .u8 3,.int .u8 30,.int .u8 22,.int .u8 20,.int .u8 15,.int .u8 25,.int .u8 17,.int .u8 4,.int .u8 8,.int .u8 31,.int .u8 27,.int .u8 13,.int .u8 23,.int .u8 21,.int .u8 19,.int .u8 16,.int .u8 7,.int .u8 26,.int .u8 12,.int .u8 18,.int .u8 6,.int .u8 11,.int .u8 5,.int .u8 10,.int .u8 9]
def qCc:Array Value:= #[.int .u8 0,.int .u8 1,.int .u8 56,.int .u8 2,.int .u8 57,.int .u8 49,.int .u8 28,.int .u8 3,.int .u8 61,.int .u8 58,.int .u8 42,.int .u8 50,.int .u8 38,.int .u8 29,.int .u8 17,.int .u8 4,.int .u8 62,.int .u8 47,.int .u8 59,.int .u8 36,.int .u8 45,.int .u8 43,.int .u8 51,.int .u8 22,.int .u8 53,.int .u8 39,.int .u8 33,.int .u8 30,.int .u8 24,.int .u8 18,.int .u8 12,.int .u8 5,.int .u8 63,.int .u8 55,.int .u8 48,.int .u8 27,.int .u8 60,.int .u8 41,.int .u8 37,.int .u8 16,.int .u8 46,.int .u8 35,.int .u8 44,.int .u8 21,.int .u8 52,.int .u8 32,.int .u8 23,.int .u8 11,.int .u8 54,.int .u8 26,.int .u8 40,.int .u8 15,.int .u8 34,.int .u8 20,.int .u8 31,.int .u8 10,.int .u8 25,.int .u8 14,.int .u8 19,.int .u8 9,.int .u8 13,.int .u8 8,.int .u8 7,.int .u8 6]
def qCa:Array Value:= #[.int .u64 1,.int .u64 10,.int .u64 100,.int .u64 1000,.int .u64 10000,.int .u64 100000,.int .u64 1000000,.int .u64 10000000,.int .u64 100000000,.int .u64 1000000000,.int .u64 10000000000,.int .u64 100000000000,.int .u64 1000000000000,.int .u64 10000000000000,.int .u64 100000000000000,.int .u64 1000000000000000,.int .u64 10000000000000000,.int .u64 100000000000000000,.int .u64 1000000000000000000,.int .u64 10000000000000000000]
noncomputable def qiP(os:Os):World:=
 {World.holding Tryz.prog os ⟨#[],#[],[]⟩with heap:=((((World.holding Tryz.prog os ⟨#[],#[],[]⟩).heap).modify 2 (qjN qCb)).modify 3 (qjN qCc)).modify 0 (qjN qCa)}
theorem qz0:(Rows.laid_internal_strconv_uint64pow10:DataW Unit)=Lib.tabData .u64 Lib.pow10Tab:=by kernel_rfl
theorem qmA:Tryz.prog.globalNamed "internal/strconv.uint64pow10" =some 0:=by kernel_rfl
theorem qCh:(Tryz.prog.globals[0]?).map (·.type)=some 235:=by kernel_rfl
theorem qrB:Tryz.prog.cellsOf 235=20:=by kernel_rfl
theorem qrz:Tryz.prog.cellsOf 224=1:=by kernel_rfl
theorem qw5 {W:World} (hsh:W.ShapedOpen Tryz.prog) (h0:laidMetH Tryz.prog [("math/bits.deBruijn32tab",Rows.laid_math_bits_deBruijn32tab),("math/bits.deBruijn64tab",Rows.laid_math_bits_deBruijn64tab),("internal/strconv.uint64pow10",Rows.laid_internal_strconv_uint64pow10)] W):qfq W:=by
 have h:laidMet Tryz.prog [("math/bits.deBruijn32tab",Rows.laid_math_bits_deBruijn32tab),("math/bits.deBruijn64tab",Rows.laid_math_bits_deBruijn64tab),("internal/strconv.uint64pow10",Rows.laid_internal_strconv_uint64pow10)] W:=h0
 have h3:=(laidMet.tail (laidMet.tail h))
 rw [qz0]at h3
 have ht:Lib.TabIs Tryz.prog W "internal/strconv.uint64pow10" .u64 Lib.pow10Tab:=Lib.tabIs_of_head (rest:=_) qmA qCh Tryz.underlying235 Tryz.underlying224 qrz qrB h3
 refine ⟨?_,ht⟩
 rintro b rfl
 unfold Lib.TabIs World.var? at ht
 rw [qmA]at ht
 simp only [Option.bind_some]at ht
 show 0 < W.heap.size
 cases hb:W.heap[0]? with
 |none=>rw [hb]at ht;cases ht
 |some x=>exact (Array.getElem?_eq_some_iff.1 hb).1
end Go.Proofs.YtbbkmeicdhnihaaGreatDoor
namespace Go
open Go.ChangeShapes
theorem qrg {a b:Bool} (h:a=true) (k:b=true):(a&&b)=true:=by rw [h,k];rfl
theorem qsv {P:Program} {c:OpenClaim} (hP:P.funcs.any Func.goes=false) (hs:c.start= .entering):false=c.goesBy P:=by
 have h: ∀ fn ∈ P.funcs,Func.goes fn=false:=by
  intro fn hf
  rw [Array.any_eq_false']at hP
  simpa using hP fn hf
 have hg: ∀ f,P.goes f=false:=by
  intro f
  unfold Program.goes
  rw [hP,Bool.and_false,Bool.or_false,List.any_eq_false]
  intro g _
  cases hq:P.funcs[g]? with
  |none=>simp
  |some fn=>simp [h fn (Array.mem_of_getElem? hq)]
 unfold OpenClaim.goesBy Program.goesAt Program.goesFrom
 rw [hs]
 cases P.funcNamed c.func with
 |none=>rfl
 |some f=>simp [hg f]
end Go
