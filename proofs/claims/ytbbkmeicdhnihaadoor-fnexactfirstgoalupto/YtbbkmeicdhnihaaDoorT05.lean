import Derived.Test.YtbbkmeicdhnihaaDoorT03
import Derived.Shelf.Strconv.Itoa3
import Derived.Shelf.Strings.OnBuilder
import Derived.Shelf.Small.Strs
import Derived.Test.YtbbkmeicdhnihaaDoorProg
import Derived.KernelRfl
set_option autoImplicit false
set_option maxRecDepth 100000
set_option linter.unusedVariables false
set_option linter.unusedSimpArgs false
namespace Go.Proofs
open Go.Shelf
def JZ:Go.Shelf.Ren:=⟨fun|171=>44|243=>52|246=>55|283=>59|284=>60|285=>61|286=>62|129=>64|317=>63|318=>65|319=>66|320=>67|337=>68|338=>69|n=>n,fun|3=>3|9=>9|2=>2|4=>4|171=>70|0=>0|53=>71|37=>63|5=>5|173=>74|212=>77|51=>78|20=>20|213=>79|46=>81|232=>84|233=>85|n=>n,fun|17=>0|18=>1|19=>2|n=>n⟩
theorem JY:Go.Proofs.LaysM.n171 Tryd.prog JZ where
 mixed:=by kernel_rfl
 f129:=Tryd.func64.trans (congrArg some (by kernel_rfl))
 f171:=Tryd.func44.trans (congrArg some (by kernel_rfl))
 f243:=Tryd.func52.trans (congrArg some (by kernel_rfl))
 f246:=Tryd.func55.trans (congrArg some (by kernel_rfl))
 f283:=Tryd.func59.trans (congrArg some (by kernel_rfl))
 f284:=Tryd.func60.trans (congrArg some (by kernel_rfl))
 f285:=Tryd.func61.trans (congrArg some (by kernel_rfl))
 f286:=Tryd.func62.trans (congrArg some (by kernel_rfl))
 f317:=Tryd.func63.trans (congrArg some (by kernel_rfl))
 f318:=Tryd.func65.trans (congrArg some (by kernel_rfl))
 f319:=Tryd.func66.trans (congrArg some (by kernel_rfl))
 f320:=Tryd.func67.trans (congrArg some (by kernel_rfl))
 f337:=Tryd.func68.trans (congrArg some (by kernel_rfl))
 f338:=Tryd.func69.trans (congrArg some (by kernel_rfl))
 t0:=Tryd.underlying0
 a0:=Tryd.isAgg0
 z0:=Tryd.sizeOf0
 v0:=Tryd.zeroValue0
 t2:=Tryd.underlying2
 a2:=Tryd.isAgg2
 z2:=Tryd.sizeOf2
 v2:=Tryd.zeroValue2
 t3:=Tryd.underlying3
 a3:=Tryd.isAgg3
 z3:=Tryd.sizeOf3
 v3:=Tryd.zeroValue3
 t4:=Tryd.underlying4
 a4:=Tryd.isAgg4
 z4:=Tryd.sizeOf4
 v4:=Tryd.zeroValue4
 t5:=Tryd.underlying5
 a5:=Tryd.isAgg5
 z5:=Tryd.sizeOf5
 v5:=Tryd.zeroValue5
 t9:=Tryd.underlying9
 a9:=Tryd.isAgg9
 z9:=Tryd.sizeOf9
 v9:=Tryd.zeroValue9
 t20:=Tryd.underlying20
 a20:=Tryd.isAgg20
 z20:=Tryd.sizeOf20
 v20:=Tryd.zeroValue20
 t37:=Tryd.underlying63
 a37:=Tryd.isAgg63
 z37:=Tryd.sizeOf63
 v37:=Tryd.zeroValue63
 t46:=Tryd.underlying81
 a46:=Tryd.isAgg81
 z46:=Tryd.sizeOf81
 v46:=Tryd.zeroValue81
 t51:=Tryd.underlying78
 a51:=Tryd.isAgg78
 z51:=Tryd.sizeOf78
 v51:=Tryd.zeroValue78
 t53:=Tryd.underlying71
 a53:=Tryd.isAgg71
 z53:=Tryd.sizeOf71
 v53:=Tryd.zeroValue71
 t171:=Tryd.underlying70
 a171:=Tryd.isAgg70
 z171:=Tryd.sizeOf70
 v171:=Tryd.zeroValue70
 t173:=Tryd.underlying74
 a173:=Tryd.isAgg74
 z173:=Tryd.sizeOf74
 v173:=Tryd.zeroValue74
 t212:=Tryd.underlying77
 a212:=Tryd.isAgg77
 z212:=Tryd.sizeOf77
 v212:=Tryd.zeroValue77
 t213:=Tryd.underlying79
 a213:=Tryd.isAgg79
 z213:=Tryd.sizeOf79
 t232:=Tryd.underlying84
 a232:=Tryd.isAgg84
 z232:=Tryd.sizeOf84
 v232:=Tryd.zeroValue84
 t233:=Tryd.underlying85
 a233:=Tryd.isAgg85
 z233:=Tryd.sizeOf85
 v233:=Tryd.zeroValue85
 g17:=by kernel_rfl
 g18:=by kernel_rfl
 g19:=by kernel_rfl
 i0:=by kernel_rfl
 i2:=by kernel_rfl
 i3:=by kernel_rfl
 i4:=by kernel_rfl
 i5:=by kernel_rfl
 i9:=by kernel_rfl
 i20:=by kernel_rfl
 i37:=by kernel_rfl
 i46:=by kernel_rfl
 i51:=by kernel_rfl
 i53:=by kernel_rfl
 i171:=by kernel_rfl
 i173:=by kernel_rfl
 i212:=by kernel_rfl
 i232:=by kernel_rfl
 i233:=by kernel_rfl
 m17:=by kernel_rfl
 m18:=by kernel_rfl
 m19:=by kernel_rfl
end Go.Proofs
namespace Go.Vm
open Go.Proofs
instance layD:Lay where
 B b:=b=JZ.g 17
 L w:=Lib.TabIs Tryd.prog w "internal/strconv.uint64pow10" .u64 Lib.pow10Tab
 st w w' h hL:=by
  unfold Lib.TabIs World.var? at*
  rw [JY.m17]at*
  simp only [Option.bind_some]at*
  rw [h _ rfl];exact hL
theorem qhs: ∀ args r outs,QI args=some (r,outs)→YC Tryd.prog (JZ.f 171) args r outs:=by
 intro args r outs h
 unfold QI at h
 split at h
 case h_2=>cases h
 rename_i n
 split at h
 case isFalse=>cases h
 rename_i hb
 simp only [Option.some.injEq,Prod.mk.injEq]at h
 obtain ⟨rfl,rfl⟩:=h
 have hz: ∀ (E:Env) vs c,qk E.cl [I n] vs c→c=c0∧vs=[.int .i64 n]:=by
  intro E vs c hx
  simp only [qk,I,Rel]at hx
  obtain ⟨y,ys,c1,c2,rfl,⟨rfl,-,rfl⟩,⟨rfl,rfl⟩,rfl⟩:=hx
  exact ⟨rfl,rfl⟩
 refine qj8 (x:= .string ⟨(Lib.itoa n).toArray⟩) JY.f171 rfl rfl rfl rfl ?_ (fun E vs c hx=>(hz E vs c hx).1)
 intro E vs hx hL
 obtain ⟨-,rfl⟩:=hz E vs c0 hx
 refine (Any.strconv_Itoa JY n hb.1 hb.2 E.w hL).mono ?_
 rintro e w' ⟨rfl,k,os,rfl⟩
 exact ⟨rfl,qf8 _ _ _⟩
end Go.Vm
