/- TopRevokes: the words that its walks use (a root for prune.py). -/
import Derived.Test.YtcpglhjmhegfmaaGreatDoorTvTb
import Derived.Test.YtcpglhjmhegfmaaGreatDoorTvSe
import Derived.Test.YtcpglhjmhegfmaaGreatDoorTvLe
import Derived.Test.YtcpglhjmhegfmaaGreatDoorTvKm
import Derived.Test.YtcpglhjmhegfmaaGreatDoorTvUm2
import Derived.Test.YtcpglhjmhegfmaaGreatDoorTvV0
import Derived.Test.YtcpglhjmhegfmaaGreatDoorTvKs
import Derived.Test.YtcpglhjmhegfmaaGreatDoorTvHs
namespace Go.Proofs.YtcpglhjmhegfmaaGreatDoor
open Go.RowKit
theorem tc_uses : True := by
  first
  | trivial
  | (exact absurd prime_Is (natural_DivModA natural_DivMod natural_Small natural_Valid natural_Of natural_Cmp rsagroup_Order rsagroup_IsSquare law30_FewKey acc_Value acc_Witness acc_Check KeyAt KbAt open_nats open_nat open_pair slice_cells post_of_below ownK laidOutK of_laid door_met wpList_append_own OwnS OwnS.nil_ OwnS.form OwnS.kept OwnS.lit SLs SLs.new SLs.to SLs.drew SLs.below SLs.more SLs.at_ SLs.of_row SLs.next SLs.keep SLs.reads wpList_look wpList_load_sub Reads.cut Reads.of_own Reads.at_ Reads.below Reads.more HRdy.start HRdy.one HH.next nextM_length Hdl.ne HRdy.grp GrpOk.value GrpOk.ready GrpOk.raise take_snoc' twiceB_snoc twiceB_append all_of' all_not' any_at' any_none' all_atU toList_inj cntP cntP_one cntP_le ret_bool ret_se below2 cell_of_row two_boxes bcell sgetD_lt SRow SRow.new smallS_lt natSmall_bound B_num num_B valid_B B_inj toList_beq_iff info_parts run_exec_load_row wpAnyH_takeD sT tk put1_setCells Put1.row wpList_store_sub there_row nat_info c1L c1S c1N c8K c2G c2T open_u8 and2 wpList_append_any own_sls wit_step nextM raiseN_snoc hasG_lt wpList_load_row heap_alloc_new free_hop some_hop cell_hop put_own OwnS.put))
end Go.Proofs.YtcpglhjmhegfmaaGreatDoor
