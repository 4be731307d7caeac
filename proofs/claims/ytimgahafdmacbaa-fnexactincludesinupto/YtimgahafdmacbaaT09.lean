import Derived.Test.YtimgahafdmacbaaT03
import Derived.Test.YtimgahafdmacbaaT08
import Derived.Test.YtimgahafdmacbaaRows
import Derived.JoinedCond
set_option autoImplicit false
set_option maxRecDepth 100000
set_option linter.unusedSimpArgs false
set_option linter.unusedVariables false
namespace Go.Vm
section
variable {P:Program}
theorem rd_Cl {tX t0 t1 t2:TypeId} (hu: ∃ fs,P.underlying tX=some (.struct fs)∧fs.toList.map (·.type)=[t0,t1,t2]) (h0:RdC P t0 (cA BT) wTm) (h1:RdC P t1 (cA BT) wTm) (h2:RdC P t2 cS wS):RdC P tX (cA bCl) wCl:=fun n xs h hb=>by
 obtain ⟨fs,hu,hfs⟩:=hu
 obtain ⟨m,parts,rfl,rfl,hp⟩:=shp_struct hu h
 rw [hfs]at hp
 obtain ⟨p0,r0,rfl,s0,hp⟩:=shpF_cons hp
 obtain ⟨p1,r1,rfl,s1,hp⟩:=shpF_cons hp
 obtain ⟨p2,r2,rfl,s2,hp⟩:=shpF_cons hp
 obtain rfl:=shpF_nil hp
 simp only [List.flatten_cons,List.flatten_nil,List.append_nil,bulkVs_append]at hb ⊢
 obtain ⟨b0,x0,c0,w0⟩:=h0 m p0 s0 (by omega)
 obtain ⟨b1,x1,c1,w1⟩:=h1 m p1 s1 (by omega)
 obtain ⟨b2,x2,c2,w2⟩:=h2 m p2 s2 (by omega)
 obtain ⟨τ0,vs0,e0,g0⟩:=BT_shape c0
 obtain rfl:=V.a.inj e0
 obtain ⟨τ1,vs1,e1,g1⟩:=BT_shape c1
 obtain rfl:=V.a.inj e1
 obtain rfl:=c2
 exact ⟨by omega,⟨x0,x1,x2⟩,⟨τ0,vs0,τ1,vs1,rfl,g0,g1⟩,w0,w1,w2⟩
theorem rd_Db {tX t0 t1:TypeId} (hu: ∃ fs,P.underlying tX=some (.struct fs)∧fs.toList.map (·.type)=[t0,t1]) (h0:RdC P t0 (cL bCl) (wL wCl)) (h1:RdC P t1 (cL RS) (wL wS)):RdC P tX (cA bDb) wDb:=fun n xs h hb=>by
 obtain ⟨fs,hu,hfs⟩:=hu
 obtain ⟨m,parts,rfl,rfl,hp⟩:=shp_struct hu h
 rw [hfs]at hp
 obtain ⟨p0,r0,rfl,s0,hp⟩:=shpF_cons hp
 obtain ⟨p1,r1,rfl,s1,hp⟩:=shpF_cons hp
 obtain rfl:=shpF_nil hp
 simp only [List.flatten_cons,List.flatten_nil,List.append_nil,bulkVs_append]at hb ⊢
 obtain ⟨b0,x0,c0,w0⟩:=h0 m p0 s0 (by omega)
 obtain ⟨b1,x1,c1,w1⟩:=h1 m p1 s1 (by omega)
 obtain ⟨vs0,rfl,g0⟩:=c0
 obtain ⟨vs1,rfl,g1⟩:=c1
 obtain rfl:=RL_S g1
 exact ⟨by omega,⟨x0,x1⟩,⟨false,vs0,false,rfl,g0⟩,w0,w1⟩
theorem rd_Fl {tX t0 t1:TypeId} (hu: ∃ fs,P.underlying tX=some (.struct fs)∧fs.toList.map (·.type)=[t0,t1]) (h0:RdC P t0 cS wS) (h1:RdC P t1 cS wS):RdC P tX (cA bFl) wFl:=fun n xs h hb=>by
 obtain ⟨fs,hu,hfs⟩:=hu
 obtain ⟨m,parts,rfl,rfl,hp⟩:=shp_struct hu h
 rw [hfs]at hp
 obtain ⟨p0,r0,rfl,s0,hp⟩:=shpF_cons hp
 obtain ⟨p1,r1,rfl,s1,hp⟩:=shpF_cons hp
 obtain rfl:=shpF_nil hp
 simp only [List.flatten_cons,List.flatten_nil,List.append_nil,bulkVs_append]at hb ⊢
 obtain ⟨b0,x0,c0,w0⟩:=h0 m p0 s0 (by omega)
 obtain ⟨b1,x1,c1,w1⟩:=h1 m p1 s1 (by omega)
 obtain rfl:=c0
 obtain rfl:=c1
 exact ⟨by omega,⟨x0,x1⟩,rfl,w0,w1⟩
theorem rd_Se {tX t0 t1 t2 t3:TypeId} (hu: ∃ fs,P.underlying tX=some (.struct fs)∧fs.toList.map (·.type)=[t0,t1,t2,t3]) (h0:RdC P t0 (cL bFl) (wL wFl)) (h1:RdC P t1 (cA bDb) wDb) (h2:RdC P t2 (cL RS) (wL wS)) (h3:RdC P t3 cS wS):RdC P tX (cA bSe) wSe:=fun n xs h hb=>by
 obtain ⟨fs,hu,hfs⟩:=hu
 obtain ⟨m,parts,rfl,rfl,hp⟩:=shp_struct hu h
 rw [hfs]at hp
 obtain ⟨p0,r0,rfl,s0,hp⟩:=shpF_cons hp
 obtain ⟨p1,r1,rfl,s1,hp⟩:=shpF_cons hp
 obtain ⟨p2,r2,rfl,s2,hp⟩:=shpF_cons hp
 obtain ⟨p3,r3,rfl,s3,hp⟩:=shpF_cons hp
 obtain rfl:=shpF_nil hp
 simp only [List.flatten_cons,List.flatten_nil,List.append_nil,bulkVs_append]at hb ⊢
 obtain ⟨b0,x0,c0,w0⟩:=h0 m p0 s0 (by omega)
 obtain ⟨b1,x1,c1,w1⟩:=h1 m p1 s1 (by omega)
 obtain ⟨b2,x2,c2,w2⟩:=h2 m p2 s2 (by omega)
 obtain ⟨b3,x3,c3,w3⟩:=h3 m p3 s3 (by omega)
 obtain ⟨vs0,rfl,g0⟩:=c0
 obtain ⟨τ0_1,vs0_1,τ1_1,e1,g1_0⟩:=c1
 obtain rfl:=V.a.inj e1
 obtain ⟨vs2,rfl,g2⟩:=c2
 obtain rfl:=RL_S g2
 obtain rfl:=c3
 exact ⟨by omega,⟨x0,x1,x2,x3⟩,⟨false,vs0,τ0_1,vs0_1,τ1_1,false,rfl,g0,g1_0⟩,w0,w1,w2,w3⟩
end
end Go.Vm
set_option autoImplicit false
set_option maxRecDepth 100000
set_option linter.unusedVariables false
set_option linter.unusedSimpArgs false
namespace Go.Proofs.Ytimgahafdmacbaa
open Go.Vm Go.RowKit Go.ChangeShapes
theorem Try.own:ownKnob Try.prog.godebug=none:=by kernel_rfl
theorem Try.laidOut:laidOutB Try.prog=true:=by kernel_rfl
def St:List TypeId:=[5,9,22,39,59]
theorem St_ok: ∀ t ∈ St,okTy Try.prog St t=true:=by
 have h:St.all (okTy Try.prog St)=true:=by kernel_rfl
 exact fun t ht=>List.all_eq_true.1 h t ht
mutual
theorem bulk_eq {H:Type}: ∀ (d:DataW H),bulkD d≤Rows.uptoBulk d
 | .lit (.string b)=>by simp [bulkD,Rows.uptoBulk]
 | .lit (.bool b)=>by simp [bulkD,Rows.uptoBulk]
 | .lit (.int k b)=>by simp [bulkD,Rows.uptoBulk]
 | .lit (.float k b)=>by simp [bulkD,Rows.uptoBulk]
 | .lit .nil=>by simp [bulkD,Rows.uptoBulk]
 | .nil=>by simp [bulkD,Rows.uptoBulk]
 | .ptr d=>by simp only [bulkD,Rows.uptoBulk];have:=bulk_eq d;omega
 | .slice es sp=>by simp only [bulkD,Rows.uptoBulk];have:=bulks_eq es;have:=bulks_eq sp;omega
 | .agg ps=>by simp only [bulkD,Rows.uptoBulk];have:=bulks_eq ps;omega
 | .iface t d=>by simp only [bulkD,Rows.uptoBulk];omega
 | .map es=>by simp only [bulkD,Rows.uptoBulk];omega
 | .held h=>by simp [bulkD,Rows.uptoBulk]
theorem bulks_eq {H:Type}: ∀ (ds:List (DataW H)),bulkDs ds≤Rows.uptoBulkAll ds
 |[]=>by simp [bulkDs,Rows.uptoBulkAll]
 |d::ds=>by simp only [bulkDs,Rows.uptoBulkAll];have:=bulk_eq d;have:=bulks_eq ds;omega
end
theorem small_le {H:Type} {ds:List (DataW H)} (h:Rows.uptoSmall H ds=true):bulkDs ds≤1048576:=Nat.le_trans (bulks_eq ds) (of_decide_eq_true h)
end Go.Proofs.Ytimgahafdmacbaa
